/-
  strings.Compare: laid from the library's own contract.
-/
import Derived.Shelf.Small.Strs
import Derived.Test.YtnlphbfjeekooaaGreatDoorProg
namespace Go.Proofs.YtnlphbfjeekooaaGreatDoor
open Go.Shelf Go.RowKit
def SH.lays106_ren : Go.Shelf.Ren := ⟨fun | 106 => 33 | 213 => 70 | 265 => 87 | n => n, fun | 9 => 9 | 3 => 3 | n => n, fun | n => n⟩
end Go.Proofs.YtnlphbfjeekooaaGreatDoor

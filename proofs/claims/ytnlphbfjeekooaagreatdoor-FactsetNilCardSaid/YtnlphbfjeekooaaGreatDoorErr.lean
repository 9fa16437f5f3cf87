/-
  errors.Is at one and the same error of errors.New's make: true; the world as it was. (Turned from the guide's worked text on errors.Is.)
-/
import Derived.WalkKit
import Derived.LaidEql
import Derived.Stop.Asserts
import Derived.RowKitTokens
import Derived.Test.YtnlphbfjeekooaaGreatDoorProg
namespace Go.Proofs.YtnlphbfjeekooaaGreatDoor
open Go.RowKit Go.Extern.Stop Go.Stop Go.Extern Go
def ER.entry : Array Value → Sem Value := Extern.ReflectliteType.method fun t => do Go.Extern.Rtype.noPackHeld "Comparable" t; pure (.bool (← typeInfo t).comparable)
end Go.Proofs.YtnlphbfjeekooaaGreatDoor

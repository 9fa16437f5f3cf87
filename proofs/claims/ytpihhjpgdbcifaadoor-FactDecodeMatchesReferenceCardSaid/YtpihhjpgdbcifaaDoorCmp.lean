/-
  strings.Compare: laid from the library's own contract.
-/
import Derived.Shelf.Small.Strs
import Derived.Test.YtpihhjpgdbcifaaDoorProg
namespace Go.Proofs.YtpihhjpgdbcifaaDoor
open Go.Shelf Go.RowKit
def SH.lays106_ren : Go.Shelf.Ren := ⟨fun | 106 => 33 | 213 => 70 | 265 => 87 | n => n, fun | 9 => 9 | 3 => 3 | n => n, fun | n => n⟩
theorem SH.lays106 : Go.Proofs.Lays.n106 Tryd.prog SH.lays106_ren := {
  mixed := by kernel_rfl
  f106 := Tryd.func33.trans (congrArg some (by kernel_rfl))
  f213 := Tryd.func70.trans (congrArg some (by kernel_rfl))
  f265 := Tryd.func87.trans (congrArg some (by kernel_rfl))
  t3 := Tryd.underlying3
  a3 := Tryd.isAgg3
  z3 := Tryd.sizeOf3
  v3 := Tryd.zeroValue3
  t9 := Tryd.underlying9
  a9 := Tryd.isAgg9
  z9 := Tryd.sizeOf9
  v9 := Tryd.zeroValue9 }
open Go.RowKit in
theorem SH.strings_Compare (a b : ByteArray) (w : World) :
    Calls Tryd.prog 33 #[.string a, .string b] w fun e w' => e = .returned (.int .i64 (Lib.compareBytes a.data.toList b.data.toList)) ∧ w' = w := Go.Proofs.Any.strings_Compare SH.lays106 a b w
end Go.Proofs.YtpihhjpgdbcifaaDoor

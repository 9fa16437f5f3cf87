/-
  Slices of whole numbers as arguments: what is read of them.
-/
import Derived.Test.YtillplhadimgmaaOp0
namespace Go.Proofs.Ytillplhadimgmaa
open Go.ChangeShapes Go.WideShapes Go.ChangeAt Go.RowKit
section
variable {H : Type} {enc : TypeId × Value → H} {W : World} {sp : Nat → Bool} {held : Bool}
theorem one_at {α : Type} (l : List α) (i : Nat) (v : α) (h : (l.drop i).take 1 = [v]) : l[i]? = some v := by
  have := congrArg (·[0]?) h
  simpa [List.getElem?_take, List.getElem?_drop] using this
def RW.i64 (x : Int) : Prop := -9223372036854775808 ≤ x ∧ x ≤ 9223372036854775807
set_option maxRecDepth 100000 in
theorem open_nums {r : Reach} {b0 : Nat} {v : Value} {d : DataW H} {ps : List MemPlace} (hval : Value.okWide Try.prog W r b0 36 v) (h : DataW.Trod enc Try.prog W 0 sp held 36 v d ps) :
    ∃ l : List Int, RowV 1 (fun z => [Value.int .i64 z]) W v l ∧ (∀ x ∈ l, RW.i64 x) ∧ l.length ≤ 9223372036854775807 :=
  open_rows (k := 1) (ec := fun z : Int => [Value.int .i64 z]) (fun x : Int => RW.i64 x) Try.underlying36 (by kernel_rfl) (by decide) (fun _ => rfl) (fun _ cs _ _ h => by
    obtain ⟨z, hz, _, hw⟩ := DataW.trod_int Try.underlying3 h
    exact ⟨z, bounds_i64 hw, hz⟩) hval h
end
end Go.Proofs.Ytillplhadimgmaa

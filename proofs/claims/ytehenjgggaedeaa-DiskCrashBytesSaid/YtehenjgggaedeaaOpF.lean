/-
  Slices of bools as arguments: what is read of them.
-/
import Derived.Test.YtehenjgggaedeaaOpE
namespace Go.Proofs.Ytehenjgggaedeaa
open Go.ChangeShapes Go.WideShapes Go.ChangeAt Go.RowKit
section
variable {H : Type} {enc : TypeId × Value → H} {W : World} {sp : Nat → Bool} {held : Bool}
set_option maxRecDepth 100000 in
theorem open_bools {r : Reach} {b0 : Nat} {v : Value} {d : DataW H} {ps : List MemPlace} (hval : Value.okWide Try.prog W r b0 58 v) (h : DataW.Trod enc Try.prog W 0 sp held 58 v d ps) :
    ∃ l : List Bool, RowV 1 (fun z => [Value.bool z]) W v l ∧ (∀ x ∈ l, x = x) ∧ l.length ≤ 9223372036854775807 :=
  open_rows (k := 1) (ec := fun z : Bool => [Value.bool z]) (fun x : Bool => x = x) Try.underlying58 (by kernel_rfl) (by decide) (fun _ => rfl) (fun _ cs _ _ h => by
    obtain ⟨z, hz, _⟩ := DataW.trod_bool Try.underlying4 h
    exact ⟨z, rfl, hz⟩) hval h
end
end Go.Proofs.Ytehenjgggaedeaa

/-
  Slices of slices of triples as arguments: what is read of them.
-/
import Derived.Test.YtillplhadimgmaaOpT
import Derived.Test.YtillplhadimgmaaSt30
namespace Go.Proofs.Ytillplhadimgmaa
open Go.ChangeShapes Go.WideShapes Go.ChangeAt Go.RowKit
theorem pick_all {α β : Type} (Q : α → β → Prop) : ∀ vs : List α, (∀ u ∈ vs, ∃ l, Q u l) → ∃ ls : List β, vs.length = ls.length ∧ (∀ (i : Nat) (u : α) (l : β), vs[i]? = some u → ls[i]? = some l → Q u l) ∧ ∀ l ∈ ls, ∃ u, Q u l
  | [], _ => ⟨[], rfl, (fun i u l hu _ => by simp at hu), fun l hl => by cases hl⟩
  | v :: vs, h => by
    obtain ⟨l, hl⟩ := h v List.mem_cons_self
    obtain ⟨ls, h1, h2, h3⟩ := pick_all Q vs fun u hu => h u (List.mem_cons_of_mem _ hu)
    refine ⟨l :: ls, by rw [List.length_cons, List.length_cons, h1], fun i u m hu hm => ?_, fun m hm => ?_⟩
    · rcases i with _ | i
      · simp only [List.getElem?_cons_zero, Option.some.injEq] at hu hm
        rw [← hu, ← hm]
        exact hl
      · rw [List.getElem?_cons_succ] at hu hm
        exact h2 i u m hu hm
    · rw [List.mem_cons] at hm
      rcases hm with rfl | hm
      · exact ⟨v, hl⟩
      · exact h3 m hm
section
variable {H : Type} {enc : TypeId × Value → H} {W : World} {sp : Nat → Bool} {held : Bool}
set_option maxRecDepth 100000 in
theorem open_triplists {r : Reach} {b0 : Nat} {v : Value} {d : DataW H} {ps : List MemPlace} (hval : Value.okWide Try.prog W r b0 53 v) (h : DataW.Trod enc Try.prog W 0 sp held 53 v d ps) :
    ∃ ls : List (List RW.Ln), TlV W v ls ∧ (∀ l ∈ ls, l.length ≤ 9223372036854775807 ∧ ∀ x ∈ l, TrB x) ∧ ls.length ≤ 9223372036854775807 := by
  obtain ⟨vs, hr, hg, hl⟩ := open_rows (k := 1) (ec := fun u : Value => [u]) (fun u => ∃ l : List RW.Ln, LnsV W u l ∧ (∀ x ∈ l, TrB x) ∧ l.length ≤ 9223372036854775807) Try.underlying53 (by kernel_rfl) (by decide) (fun _ => rfl) (fun fuel cs x _ h1 => by
    obtain ⟨u, e, hu⟩ := trod_rows (k := 3) (ec := RW.lnl) TrB Try.underlying29 (by kernel_rfl) (by decide) (fun _ => rfl) (fun _ _ _ hl h => open_tripc hl h) h1
    exact ⟨u, hu, e⟩) hval h
  obtain ⟨ls, h1, h2, h3⟩ := pick_all (fun u (l : List RW.Ln) => LnsV W u l ∧ (∀ x ∈ l, TrB x) ∧ l.length ≤ 9223372036854775807) vs hg
  refine ⟨ls, ⟨vs, hr, h1, fun i u l hu hl => (h2 i u l hu hl).1⟩, fun l hl => ?_, by rw [← h1]; exact hl⟩
  obtain ⟨u, hu⟩ := h3 l hl
  exact ⟨hu.2.2, hu.2.1⟩
end
end Go.Proofs.Ytillplhadimgmaa

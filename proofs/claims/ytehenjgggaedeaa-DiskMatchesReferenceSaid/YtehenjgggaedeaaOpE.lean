/-
  Slices of writes as arguments: what is read of them.
-/
import Derived.Test.YtehenjgggaedeaaOpD
import Derived.Test.YtehenjgggaedeaaDk11
namespace Go.Proofs.Ytehenjgggaedeaa
open Go.ChangeShapes Go.WideShapes Go.ChangeAt Go.RowKit
section
variable {H : Type} {enc : TypeId × Value → H} {W : World} {sp : Nat → Bool} {held : Bool}
theorem wp_fields : ∃ fs : Array Field, Try.prog.underlying 53 = some (.struct fs) ∧ fs.size = 3 ∧ (∃ f : Field, fs[0]? = some f ∧ f.type = 3 ∧ f.offset = 0) ∧ (∃ f : Field, fs[1]? = some f ∧ f.type = 9 ∧ f.offset = 1) ∧ (∃ f : Field, fs[2]? = some f ∧ f.type = 4 ∧ f.offset = 2) :=
  ⟨_, Try.underlying53, rfl, ⟨_, rfl, rfl, rfl⟩, ⟨_, rfl, rfl, rfl⟩, ⟨_, rfl, rfl, rfl⟩⟩
theorem cellsS : Try.prog.cellsOf 9 = 1 := by kernel_rfl
theorem cellsB : Try.prog.cellsOf 4 = 1 := by kernel_rfl
set_option maxRecDepth 100000 in
theorem open_wpc {fuel : Nat} {cs : List Value} {x : DataW H × List MemPlace} (hl : cs.length = 3) (h : DataW.trod enc Try.prog W 0 sp held fuel 53 cs = some x) : ∃ y : RW.Wp, ((-9223372036854775808 ≤ y.1 ∧ y.1 ≤ 9223372036854775807) ∧ y.2.1.size ≤ 9223372036854775807) ∧ cs = RW.wpl y := by
  obtain ⟨fs, hu, hz, ⟨f0, hf0, ht0, ho0⟩, ⟨f1, hf1, ht1, ho1⟩, ⟨f2, hf2, ht2, ho2⟩⟩ := wp_fields
  obtain ⟨xs, m, _, hx, _, hxl, hi⟩ := DataW.trod_struct hu h
  have g0 := hi 0 f0 hf0
  rw [ht0, ho0, cellsI, List.getElem?_eq_getElem (by omega)] at g0
  obtain ⟨n, hn, _, hw⟩ := DataW.trod_int Try.underlying3 g0
  have g1 := hi 1 f1 hf1
  rw [ht1, ho1, cellsS, List.getElem?_eq_getElem (by omega)] at g1
  obtain ⟨s, hs, _, hm⟩ := DataW.trod_string Try.underlying9 g1
  have g2 := hi 2 f2 hf2
  rw [ht2, ho2, cellsB, List.getElem?_eq_getElem (by omega)] at g2
  obtain ⟨b, hb, _⟩ := DataW.trod_bool Try.underlying4 g2
  have hb64 := bounds_i64 hw
  refine ⟨(n, s, b), ⟨hb64, by unfold maxLen at hm; exact hm⟩, ?_⟩
  have e0 := one_at _ _ _ hn
  have e1 := one_at _ _ _ hs
  have e2 := one_at _ _ _ hb
  apply List.ext_getElem?
  intro i
  rcases Nat.lt_or_ge i 3 with h3 | h3
  · rcases i with _ | _ | _ | i
    · rw [e0]; rfl
    · rw [e1]; rfl
    · rw [e2]; rfl
    · omega
  · rw [List.getElem?_eq_none (by omega), List.getElem?_eq_none (by show 3 ≤ i; exact h3)]
set_option maxRecDepth 100000 in
theorem open_wps {r : Reach} {b0 : Nat} {v : Value} {d : DataW H} {ps : List MemPlace} (hval : Value.okWide Try.prog W r b0 51 v) (h : DataW.Trod enc Try.prog W 0 sp held 51 v d ps) :
    ∃ l : List RW.Wp, RowV 3 RW.wpl W v l ∧ (∀ x ∈ l, (-9223372036854775808 ≤ x.1 ∧ x.1 ≤ 9223372036854775807) ∧ x.2.1.size ≤ 9223372036854775807) ∧ l.length ≤ 9223372036854775807 :=
  open_rows (k := 3) (ec := RW.wpl) (fun y : RW.Wp => (-9223372036854775808 ≤ y.1 ∧ y.1 ≤ 9223372036854775807) ∧ y.2.1.size ≤ 9223372036854775807) Try.underlying51 (by kernel_rfl) (by decide) (fun _ => rfl) (fun _ _ _ hl h => open_wpc hl h) hval h
end
end Go.Proofs.Ytehenjgggaedeaa

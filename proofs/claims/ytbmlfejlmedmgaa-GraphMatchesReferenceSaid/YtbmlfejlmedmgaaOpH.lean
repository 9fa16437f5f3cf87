/-
  Edges as arguments, one and slices of them: what is read of them.
-/
import Derived.Test.YtbmlfejlmedmgaaOpD
import Derived.Test.YtbmlfejlmedmgaaG10
namespace Go.Proofs.Ytbmlfejlmedmgaa
open Go.ChangeShapes Go.WideShapes Go.ChangeAt Go.RowKit
section
variable {H : Type} {enc : TypeId × Value → H} {W : World} {sp : Nat → Bool} {held : Bool}
theorem edge_fields : ∃ fs : Array Field, Try.prog.underlying 38 = some (.struct fs) ∧ fs.size = 2 ∧ (∃ f : Field, fs[0]? = some f ∧ f.type = 3 ∧ f.offset = 0) ∧ (∃ f : Field, fs[1]? = some f ∧ f.type = 3 ∧ f.offset = 1) :=
  ⟨_, Try.underlying38, rfl, ⟨_, rfl, rfl, rfl⟩, ⟨_, rfl, rfl, rfl⟩⟩
set_option maxRecDepth 100000 in
theorem open_edgec {fuel : Nat} {cs : List Value} {x : DataW H × List MemPlace} (hl : cs.length = 2) (h : DataW.trod enc Try.prog W 0 sp held fuel 38 cs = some x) : ∃ y : RW.Ed, (RW.i64b y.1 ∧ RW.i64b y.2) ∧ cs = RW.edl y := by
  obtain ⟨fs, hu, hz, ⟨f0, hf0, ht0, ho0⟩, ⟨f1, hf1, ht1, ho1⟩⟩ := edge_fields
  obtain ⟨xs, m, _, hx, _, hxl, hi⟩ := DataW.trod_struct hu h
  have g0 := hi 0 f0 hf0
  rw [ht0, ho0, cellsI, List.getElem?_eq_getElem (by omega)] at g0
  obtain ⟨n0, hn0, _, hw0⟩ := DataW.trod_int Try.underlying3 g0
  have g1 := hi 1 f1 hf1
  rw [ht1, ho1, cellsI, List.getElem?_eq_getElem (by omega)] at g1
  obtain ⟨n1, hn1, _, hw1⟩ := DataW.trod_int Try.underlying3 g1
  refine ⟨(n0, n1), ⟨bounds_i64 hw0, bounds_i64 hw1⟩, ?_⟩
  have e0 := one_at _ _ _ hn0
  have e1 := one_at _ _ _ hn1
  apply List.ext_getElem?
  intro i
  rcases Nat.lt_or_ge i 2 with h3 | h3
  · rcases i with _ | _ | i
    · rw [e0]; rfl
    · rw [e1]; rfl
    · omega
  · rw [List.getElem?_eq_none (by omega), List.getElem?_eq_none (by show 2 ≤ i; exact h3)]
set_option maxRecDepth 100000 in
theorem open_edges {r : Reach} {b0 : Nat} {v : Value} {d : DataW H} {ps : List MemPlace} (hval : Value.okWide Try.prog W r b0 22 v) (h : DataW.Trod enc Try.prog W 0 sp held 22 v d ps) :
    ∃ l : List RW.Ed, RowV 2 RW.edl W v l ∧ (∀ x ∈ l, RW.i64b x.1 ∧ RW.i64b x.2) ∧ l.length ≤ 9223372036854775807 :=
  open_rows (k := 2) (ec := RW.edl) (fun y : RW.Ed => RW.i64b y.1 ∧ RW.i64b y.2) Try.underlying22 (by kernel_rfl) (by decide) (fun _ => rfl) (fun _ _ _ hl h => open_edgec hl h) hval h
theorem okWide_structE {t : TypeId} {fs : Array Field} (hu : Try.prog.underlying t = some (.struct fs)) {r : Reach} {b0 : Nat} {v : Value} (hval : Value.okWide Try.prog W r b0 t v) : ∃ cs, v = .agg cs ∧ cs.size = Try.prog.cellsOf t := by
  simp only [Value.okWide, hu] at hval
  obtain ⟨cs, h1, h2, _⟩ := hval
  exact ⟨cs, h1, h2⟩
set_option maxRecDepth 100000 in
theorem open_edge1 {r : Reach} {b0 : Nat} {v : Value} {d : DataW H} {ps : List MemPlace} (hval : Value.okWide Try.prog W r b0 38 v) (h : DataW.Trod enc Try.prog W 0 sp held 38 v d ps) :
    ∃ y : RW.Ed, v = .agg (RW.edl y).toArray ∧ RW.i64b y.1 ∧ RW.i64b y.2 := by
  obtain ⟨fs, hu, hz, _⟩ := edge_fields
  obtain ⟨cs, rfl, hsz⟩ := okWide_structE hu hval
  obtain ⟨fuel, hf⟩ := h
  have hcl : (Value.agg cs).cells.toList = cs.toList := rfl
  rw [hcl] at hf
  rw [show Try.prog.cellsOf 38 = 2 by kernel_rfl] at hsz
  obtain ⟨y, ⟨h1, h2⟩, h3⟩ := open_edgec (by rw [Array.length_toList]; exact hsz) hf
  exact ⟨y, by rw [← h3], h1, h2⟩
end
end Go.Proofs.Ytbmlfejlmedmgaa

/-
  Slices of parts, of facts, of whole numbers, and a fact, as arguments: what is read of them.
-/
import Derived.Test.YtnkdpfkmellpcaaOp0
import Derived.Test.YtnkdpfkmellpcaaSp12
namespace Go.Proofs.Ytnkdpfkmellpcaa
open Go.ChangeShapes Go.WideShapes Go.ChangeAt Go.RowKit
section
variable {H : Type} {enc : TypeId × Value → H} {W : World} {sp : Nat → Bool} {held : Bool}
theorem one_at {α : Type} (l : List α) (i : Nat) (v : α) (h : (l.drop i).take 1 = [v]) : l[i]? = some v := by
  have := congrArg (·[0]?) h
  simpa [List.getElem?_take, List.getElem?_drop] using this
def RW.i64 (x : Int) : Prop := -9223372036854775808 ≤ x ∧ x ≤ 9223372036854775807
theorem part_fields : ∃ fs : Array Field, Try.prog.underlying 39 = some (.struct fs) ∧ fs.size = 2 ∧ ∀ i, i < 2 → ∃ f : Field, fs[i]? = some f ∧ f.type = 3 ∧ f.offset = i := by
  refine ⟨_, Try.underlying39, rfl, fun i hi => ?_⟩
  rcases i with _ | _ | i
  all_goals first | exact ⟨_, rfl, rfl, rfl⟩ | omega
theorem open_part {fuel : Nat} {cs : List Value} {x : DataW H × List MemPlace} (hl : cs.length = 2) (h : DataW.trod enc Try.prog W 0 sp held fuel 39 cs = some x) : ∃ y : RW.Pt, (RW.i64 y.1 ∧ RW.i64 y.2) ∧ cs = RW.pcl y := by
  obtain ⟨fs, hu, hz, hint⟩ := part_fields
  obtain ⟨xs, m, _, hx, _, hxl, hi⟩ := DataW.trod_struct hu h
  rw [hz] at hxl
  have hI : ∀ i, i < 2 → ∃ z : Int, cs[i]? = some (.int .i64 z) ∧ RW.i64 z := fun i hi' => by
    obtain ⟨ff, hff, ht, ho⟩ := hint i hi'
    have h1 := hi i ff hff
    rw [ht, ho, cellsI, List.getElem?_eq_getElem (by omega)] at h1
    obtain ⟨n, hn, _, hw⟩ := DataW.trod_int Try.underlying3 h1
    exact ⟨n, one_at _ _ _ hn, bounds_i64 hw⟩
  obtain ⟨a, ha, ba⟩ := hI 0 (by decide)
  obtain ⟨b, hb, bb⟩ := hI 1 (by decide)
  refine ⟨(a, b), ⟨ba, bb⟩, ?_⟩
  apply List.ext_getElem?
  intro i
  rcases Nat.lt_or_ge i 2 with h2 | h2
  · rcases i with _ | _ | i
    · rw [ha]; rfl
    · rw [hb]; rfl
    · omega
  · rw [List.getElem?_eq_none (by omega), List.getElem?_eq_none (by rw [pcl_len]; omega)]
theorem open_partsv {r : Reach} {b0 : Nat} {v : Value} {d : DataW H} {ps : List MemPlace} (hval : Value.okWide Try.prog W r b0 28 v) (h : DataW.Trod enc Try.prog W 0 sp held 28 v d ps) :
    ∃ l : List RW.Pt, PartsV W v l ∧ (∀ x ∈ l, RW.i64 x.1 ∧ RW.i64 x.2) ∧ l.length ≤ 9223372036854775807 :=
  open_rows (fun x : RW.Pt => RW.i64 x.1 ∧ RW.i64 x.2) Try.underlying28 (by kernel_rfl) (by decide) pcl_len (fun _ _ _ hl h => open_part hl h) hval h
theorem fact_fields : ∃ fs : Array Field, Try.prog.underlying 43 = some (.struct fs) ∧ fs.size = 18 ∧ (∀ i, i < 17 → ∃ f : Field, fs[i]? = some f ∧ f.type = 3 ∧ f.offset = i) ∧ (∃ f : Field, fs[17]? = some f ∧ f.type = 9 ∧ f.offset = 17) := by
  refine ⟨_, Try.underlying43, rfl, fun i hi => ?_, ⟨_, rfl, rfl, rfl⟩⟩
  rcases i with _ | _ | _ | _ | _ | _ | _ | _ | _ | _ | _ | _ | _ | _ | _ | _ | _ | i
  all_goals first | exact ⟨_, rfl, rfl, rfl⟩ | omega
theorem cellsS : Try.prog.cellsOf 9 = 1 := by kernel_rfl
def RW.intIn (cs : List Value) (i : Nat) : Int := match cs[i]? with
  | some (.int _ n) => n
  | _ => 0
set_option maxRecDepth 100000 in
theorem open_factc {fuel : Nat} {cs : List Value} {x : DataW H × List MemPlace} (hl : cs.length = 18) (h : DataW.trod enc Try.prog W 0 sp held fuel 43 cs = some x) : ∃ y : RW.Fc, ((∀ i, i < 17 → RW.i64 (y.1 i)) ∧ y.2.size ≤ maxLen) ∧ cs = RW.fce y := by
  obtain ⟨fs, hu, hz, hint, fx, hfx, hft, hfo⟩ := fact_fields
  obtain ⟨xs, m, _, hx, _, hxl, hi⟩ := DataW.trod_struct hu h
  rw [hz] at hxl
  have hI : ∀ i, i < 17 → cs[i]? = some (.int .i64 (RW.intIn cs i)) ∧ RW.i64 (RW.intIn cs i) := fun i hi' => by
    obtain ⟨ff, hff, ht, ho⟩ := hint i hi'
    have h1 := hi i ff hff
    rw [ht, ho, cellsI, List.getElem?_eq_getElem (by omega)] at h1
    obtain ⟨n, hn, _, hw⟩ := DataW.trod_int Try.underlying3 h1
    have h2 := one_at _ _ _ hn
    have h3 : RW.intIn cs i = n := by unfold RW.intIn; rw [h2]
    rw [h3]
    exact ⟨h2, bounds_i64 hw⟩
  have hS : ∃ s : ByteArray, cs[17]? = some (.string s) ∧ s.size ≤ maxLen := by
    have h1 := hi 17 fx hfx
    rw [hft, hfo, cellsS, List.getElem?_eq_getElem (by omega)] at h1
    obtain ⟨s, hn, _, hm⟩ := DataW.trod_string Try.underlying9 h1
    exact ⟨s, one_at _ _ _ hn, hm⟩
  obtain ⟨s, hs, hm⟩ := hS
  refine ⟨(RW.intIn cs, s), ⟨fun i hi' => (hI i hi').2, hm⟩, ?_⟩
  apply List.ext_getElem?
  intro i
  rcases Nat.lt_or_ge i 17 with h17 | h17
  · rw [(hI i h17).1]
    have := fc_get (RW.intIn cs) s i h17
    unfold RW.fcells at this
    rw [List.getElem?_toArray] at this
    exact this.symm
  · rcases Nat.eq_or_lt_of_le h17 with rfl | h18
    · rw [hs]; rfl
    · rw [List.getElem?_eq_none (by omega), List.getElem?_eq_none (by rw [fcl_len]; omega)]
theorem open_factsv {r : Reach} {b0 : Nat} {v : Value} {d : DataW H} {ps : List MemPlace} (hval : Value.okWide Try.prog W r b0 22 v) (h : DataW.Trod enc Try.prog W 0 sp held 22 v d ps) :
    ∃ l : List RW.Fc, FactsV W v l ∧ (∀ x ∈ l, (∀ i, i < 17 → RW.i64 (x.1 i)) ∧ x.2.size ≤ maxLen) ∧ l.length ≤ 9223372036854775807 :=
  open_rows (fun y : RW.Fc => (∀ i, i < 17 → RW.i64 (y.1 i)) ∧ y.2.size ≤ maxLen) Try.underlying22 (by kernel_rfl) (by decide) fcl_len (fun _ _ _ hl h => open_factc hl h) hval h
theorem open_fact1 {r : Reach} {b0 : Nat} {v : Value} {d : DataW H} {ps : List MemPlace} (hval : Value.okWide Try.prog W r b0 43 v) (h : DataW.Trod enc Try.prog W 0 sp held 43 v d ps) :
    ∃ y : RW.Fc, v = .agg (RW.fce y).toArray ∧ (∀ i, i < 17 → RW.i64 (y.1 i)) ∧ y.2.size ≤ maxLen := by
  obtain ⟨fs, hu, hz, _⟩ := fact_fields
  obtain ⟨cs, rfl, hsz⟩ := okWide_struct hu hval
  obtain ⟨fuel, hf⟩ := h
  have hcl : (Value.agg cs).cells.toList = cs.toList := rfl
  rw [hcl] at hf
  rw [show Try.prog.cellsOf 43 = 18 by kernel_rfl] at hsz
  obtain ⟨y, ⟨h1, h2⟩, h3⟩ := open_factc (by rw [Array.length_toList]; exact hsz) hf
  exact ⟨y, by rw [← h3], h1, h2⟩
theorem open_nums {r : Reach} {b0 : Nat} {v : Value} {d : DataW H} {ps : List MemPlace} (hval : Value.okWide Try.prog W r b0 46 v) (h : DataW.Trod enc Try.prog W 0 sp held 46 v d ps) :
    ∃ l : List Int, RowV 1 (fun z => [Value.int .i64 z]) W v l ∧ (∀ x ∈ l, RW.i64 x) ∧ l.length ≤ 9223372036854775807 :=
  open_rows (k := 1) (ec := fun z : Int => [Value.int .i64 z]) (fun x : Int => RW.i64 x) Try.underlying46 (by kernel_rfl) (by decide) (fun _ => rfl) (fun _ cs _ _ h => by
    obtain ⟨z, hz, _, hw⟩ := DataW.trod_int Try.underlying3 h
    exact ⟨z, bounds_i64 hw, hz⟩) hval h
end
end Go.Proofs.Ytnkdpfkmellpcaa

/-
  Lists of ints, of calls as arguments: what is read of them.
-/
import Derived.Test.YtllbphanfahkkaaGreatDoorJOp
import Derived.Test.YtllbphanfahkkaaGreatDoorJnW
namespace Go.Proofs.YtllbphanfahkkaaGreatDoor
open Go.ChangeShapes Go.WideShapes Go.ChangeAt Go.RowKit
section
variable {H : Type} {enc : TypeId × Value → H} {W : World} {sp : Nat → Bool} {held : Bool}
theorem cellsIJ : Tryz.prog.cellsOf 3 = 1 := by kernel_rfl
theorem cellsLJ : Tryz.prog.cellsOf 56 = 1 := by kernel_rfl
set_option maxRecDepth 100000 in
theorem trod_ints {fuel : Nat} {cs : List Value} {x : DataW H × List MemPlace} (hf : DataW.trod enc Tryz.prog W 0 sp held fuel 56 cs = some x) : ∃ v, cs = [v] ∧ ∃ l : List Int, IntR W v l ∧ l.length ≤ 9223372036854775807 := by
  obtain ⟨v, hv, l, h1, _, h2⟩ := trod_rows (k := 1) (ec := fun z : Int => [Value.int .i64 z]) (fun _ : Int => True) Tryz.underlying56 (by kernel_rfl) (by decide) (fun _ => rfl) (fun _ cs _ _ h => by
    obtain ⟨z, hz, _, _⟩ := DataW.trod_int Tryz.underlying3 h
    exact ⟨z, trivial, hz⟩) hf
  exact ⟨v, hv, l, h1, h2⟩
set_option maxRecDepth 100000 in
theorem open_intsJ {r : Reach} {b0 : Nat} {v : Value} {d : DataW H} {ps : List MemPlace} (hval : Value.okWide Tryz.prog W r b0 56 v) (h : DataW.Trod enc Tryz.prog W 0 sp held 56 v d ps) :
    ∃ l : List Int, IntR W v l ∧ l.length ≤ 9223372036854775807 := by
  obtain ⟨fuel, hf⟩ := h
  rw [cells_slice Tryz.underlying56 hval] at hf
  obtain ⟨v', hv, h⟩ := trod_ints hf
  cases hv
  exact h
theorem op_fields : ∃ fs : Array Field, Tryz.prog.underlying 62 = some (.struct fs) ∧ fs.size = 4 ∧ (∃ f : Field, fs[0]? = some f ∧ f.type = 3 ∧ f.offset = 0) ∧ (∃ f : Field, fs[1]? = some f ∧ f.type = 22 ∧ f.offset = 1) ∧ (∃ f : Field, fs[2]? = some f ∧ f.type = 3 ∧ f.offset = 2) ∧ (∃ f : Field, fs[3]? = some f ∧ f.type = 56 ∧ f.offset = 3) :=
  ⟨_, Tryz.underlying62, rfl, ⟨_, rfl, rfl, rfl⟩, ⟨_, rfl, rfl, rfl⟩, ⟨_, rfl, rfl, rfl⟩, ⟨_, rfl, rfl, rfl⟩⟩
theorem one_atJ {α : Type} (l : List α) (i : Nat) (x : α) (h : (l.drop i).take 1 = [x]) : l[i]? = some x := by
  have e := congrArg (·[0]?) h
  simpa [List.getElem?_take, List.getElem?_drop] using e
set_option maxRecDepth 100000 in
theorem open_opc {fuel : Nat} {cs : List Value} {x : DataW H × List MemPlace} (hl : cs.length = 4) (h : DataW.trod enc Tryz.prog W 0 sp held fuel 62 cs = some x) : ∃ y : RW.Opc, OpG W y ∧ cs = RW.opl y := by
  obtain ⟨fs, hu, hz, ⟨f0, hf0, ht0, ho0⟩, ⟨f1, hf1, ht1, ho1⟩, ⟨f2, hf2, ht2, ho2⟩, ⟨f3, hf3, ht3, ho3⟩⟩ := op_fields
  obtain ⟨xs, m, _, hx, _, hxl, hi⟩ := DataW.trod_struct hu h
  have g0 := hi 0 f0 hf0
  rw [ht0, ho0, cellsIJ, List.getElem?_eq_getElem (by omega)] at g0
  obtain ⟨n0, hn0, _, hw0⟩ := DataW.trod_int Tryz.underlying3 g0
  have g1 := hi 1 f1 hf1
  rw [ht1, ho1, cellsSl, List.getElem?_eq_getElem (by omega)] at g1
  obtain ⟨lv, hlv, ls, hrow1, _, hls⟩ := trod_strs g1
  have g2 := hi 2 f2 hf2
  rw [ht2, ho2, cellsIJ, List.getElem?_eq_getElem (by omega)] at g2
  obtain ⟨n2, hn2, _, hw2⟩ := DataW.trod_int Tryz.underlying3 g2
  have g3 := hi 3 f3 hf3
  rw [ht3, ho3, cellsLJ, List.getElem?_eq_getElem (by omega)] at g3
  obtain ⟨kv, hkv, kl, hrow3, hkl⟩ := trod_ints g3
  refine ⟨⟨n0, lv, ls, n2, kv, kl⟩, ⟨hrow1, hls, hrow3, hkl, bounds_i64 hw0, bounds_i64 hw2⟩, ?_⟩
  have e0 := one_atJ _ _ _ hn0
  have e1 := one_atJ _ _ _ hlv
  have e2 := one_atJ _ _ _ hn2
  have e3 := one_atJ _ _ _ hkv
  apply List.ext_getElem?
  intro i
  rcases Nat.lt_or_ge i 4 with h3 | h3
  · rcases i with _ | _ | _ | _ | i
    · rw [e0]; rfl
    · rw [e1]; rfl
    · rw [e2]; rfl
    · rw [e3]; rfl
    · omega
  · rw [List.getElem?_eq_none (by omega), List.getElem?_eq_none (by show 4 ≤ i; exact h3)]
set_option maxRecDepth 100000 in
theorem open_opsJ {r : Reach} {b0 : Nat} {v : Value} {d : DataW H} {ps : List MemPlace} (hval : Value.okWide Tryz.prog W r b0 60 v) (h : DataW.Trod enc Tryz.prog W 0 sp held 60 v d ps) :
    ∃ l : List RW.Opc, OpsR W v l ∧ l.length ≤ 9223372036854775807 := by
  obtain ⟨fuel, hf⟩ := h
  rw [cells_slice Tryz.underlying60 hval] at hf
  obtain ⟨v', hv, l, h1, h2, h3⟩ := trod_rows (k := 4) (ec := RW.opl) (fun y : RW.Opc => OpG W y) Tryz.underlying60 (by kernel_rfl) (by decide) (fun _ => rfl) (fun _ _ _ hl h => open_opc hl h) hf
  cases hv
  exact ⟨l, ⟨h1, h2⟩, h3⟩
end
end Go.Proofs.YtllbphanfahkkaaGreatDoor

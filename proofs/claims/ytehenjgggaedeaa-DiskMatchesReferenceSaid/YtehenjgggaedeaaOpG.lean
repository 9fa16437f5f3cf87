/-
  Slices of calls as arguments, each with a slice of numbers: what is read of them.
-/
import Derived.Test.YtehenjgggaedeaaOpE
import Derived.Test.YtehenjgggaedeaaDk19
namespace Go.Proofs.Ytehenjgggaedeaa
open Go.ChangeShapes Go.WideShapes Go.ChangeAt Go.RowKit
section
variable {H : Type} {enc : TypeId × Value → H} {W : World} {sp : Nat → Bool} {held : Bool}
set_option maxRecDepth 100000 in
theorem trod_rows {α : Type} {k : Nat} {ec : α → List Value} {T E : TypeId} (good : α → Prop) (hu : Try.prog.underlying T = some (.slice E)) (hcl : Try.prog.cellsOf E = k) (h0 : 0 < k) (hlen : ∀ x, (ec x).length = k)
    (hel : ∀ (fuel : Nat) (cs : List Value) (x : DataW H × List MemPlace), cs.length = k → DataW.trod enc Try.prog W 0 sp held fuel E cs = some x → ∃ y : α, good y ∧ cs = ec y)
    {fuel : Nat} {cs : List Value} {x : DataW H × List MemPlace} (hf : DataW.trod enc Try.prog W 0 sp held fuel T cs = some x) :
    ∃ v, cs = [v] ∧ ∃ l : List α, RowV k ec W v l ∧ (∀ x ∈ l, good x) ∧ l.length ≤ 9223372036854775807 := by
  rcases Deep.open_slice hu hf with ⟨hcs, _⟩ | ⟨a', len, cap, m, n, D, Pl, hcs, hb, hl, hm, hmm, _, hall⟩
  · exact ⟨_, hcs, [], RowV.nil W, by simp, by simp⟩
  · refine ⟨_, hcs, ?_⟩
    have hlm : len ≤ m := by rw [hmm]; split <;> omega
    have key : ∀ i, i < len → ∃ y : α, good y ∧ ∀ j u, (ec y)[j]? = some u → W.cell? (a'.add (i * k + j)) = some u := fun i hi => by
      obtain ⟨cs', h1, h2⟩ := hall i (by omega)
      rw [hcl] at h1
      obtain ⟨_, hln, hc⟩ := World.cells?_some h1
      obtain ⟨y, hy, rfl⟩ := hel _ _ _ hln h2
      refine ⟨y, hy, fun j u hj => ?_⟩
      have hjk : j < k := by rw [← hln]; exact (List.getElem?_eq_some_iff.1 hj).1
      rw [← Deep.add_add, ← hj]
      exact hc j hjk
    rcases Nat.eq_zero_or_pos len with h00 | h00
    · subst h00
      exact ⟨[], ⟨some a', cap, rfl, Nat.zero_le _, .inl rfl⟩, by simp, by simp⟩
    · obtain ⟨y0, _, _⟩ := key 0 h00
      have : Nonempty α := ⟨y0⟩
      obtain ⟨X, hX⟩ := Classical.axiomOfChoice (r := fun (i : Fin len) (y : α) => good y ∧ ∀ j u, (ec y)[j]? = some u → W.cell? (a'.add (i.1 * k + j)) = some u) (fun i => key i.1 i.2)
      have hll : (List.ofFn X).length = len := List.length_ofFn
      have hget : ∀ i x, (List.ofFn X)[i]? = some x → ∃ hi : i < len, x = X ⟨i, hi⟩ := fun i x hx => by
        have hi := (List.getElem?_eq_some_iff.1 hx).1
        rw [hll] at hi
        refine ⟨hi, ?_⟩
        rw [List.getElem?_eq_getElem (by rw [hll]; exact hi), List.getElem_ofFn] at hx
        exact (Option.some.inj hx).symm
      refine ⟨List.ofFn X, ⟨some a', cap, by rw [hll], by rw [hll]; exact hl, .inr ?_⟩, fun x hx => ?_, by rw [hll]; unfold maxLen at hm; omega⟩
      · obtain ⟨b, off, spot⟩ := a'
        have hc0 : ∃ u, (ec (X ⟨0, h00⟩))[0]? = some u := ⟨_, List.getElem?_eq_getElem (by rw [hlen]; exact h0)⟩
        obtain ⟨u0, hu0⟩ := hc0
        have hr0 := (hX ⟨0, h00⟩).2 0 u0 hu0
        have hs : spot = none := by simpa [Addr.add] using World.cell?_spot hr0
        subst hs
        have hb2 : b < W.heap.size := by
          have := World.block_lt_of_cell? W _ hr0
          simpa [Addr.add] using this
        refine ⟨b, off, rfl, hb2, fun i x hx j u hj => ?_⟩
        obtain ⟨hi, rfl⟩ := hget i x hx
        have := (hX ⟨i, hi⟩).2 j u hj
        rwa [show ((⟨b, off, none⟩ : Addr).add (i * k + j)) = ⟨b, off + i * k + j, none⟩ by unfold Addr.add; split <;> simp_all [Nat.add_assoc]] at this
      · obtain ⟨i, hi⟩ := List.getElem?_of_mem hx
        obtain ⟨hi', rfl⟩ := hget i x hi
        exact (hX ⟨i, hi'⟩).1
theorem sp_fields : ∃ fs : Array Field, Try.prog.underlying 39 = some (.struct fs) ∧ fs.size = 5 ∧ (∃ f : Field, fs[0]? = some f ∧ f.type = 3 ∧ f.offset = 0) ∧ (∃ f : Field, fs[1]? = some f ∧ f.type = 3 ∧ f.offset = 1) ∧ (∃ f : Field, fs[2]? = some f ∧ f.type = 3 ∧ f.offset = 2) ∧ (∃ f : Field, fs[3]? = some f ∧ f.type = 9 ∧ f.offset = 3) ∧ (∃ f : Field, fs[4]? = some f ∧ f.type = 37 ∧ f.offset = 4) :=
  ⟨_, Try.underlying39, rfl, ⟨_, rfl, rfl, rfl⟩, ⟨_, rfl, rfl, rfl⟩, ⟨_, rfl, rfl, rfl⟩, ⟨_, rfl, rfl, rfl⟩, ⟨_, rfl, rfl, rfl⟩⟩
theorem cellsL : Try.prog.cellsOf 37 = 1 := by kernel_rfl
/-- what is known of a call that is handed in -/
def SpIn (W : World) (y : RW.Sp) : Prop := y.good ∧ RowV 1 (fun z => [Value.int .i64 z]) W y.kv y.k ∧ y.k.length ≤ 9223372036854775807
set_option maxRecDepth 100000 in
theorem open_spc {fuel : Nat} {cs : List Value} {x : DataW H × List MemPlace} (hl : cs.length = 5) (h : DataW.trod enc Try.prog W 0 sp held fuel 39 cs = some x) : ∃ y : RW.Sp, SpIn W y ∧ cs = RW.spl y := by
  obtain ⟨fs, hu, hz, ⟨f0, hf0, ht0, ho0⟩, ⟨f1, hf1, ht1, ho1⟩, ⟨f2, hf2, ht2, ho2⟩, ⟨f3, hf3, ht3, ho3⟩, ⟨f4, hf4, ht4, ho4⟩⟩ := sp_fields
  obtain ⟨xs, m, _, hx, _, hxl, hi⟩ := DataW.trod_struct hu h
  have g0 := hi 0 f0 hf0
  rw [ht0, ho0, cellsI, List.getElem?_eq_getElem (by omega)] at g0
  obtain ⟨n0, hn0, _, hw0⟩ := DataW.trod_int Try.underlying3 g0
  have g1 := hi 1 f1 hf1
  rw [ht1, ho1, cellsI, List.getElem?_eq_getElem (by omega)] at g1
  obtain ⟨n1, hn1, _, hw1⟩ := DataW.trod_int Try.underlying3 g1
  have g2 := hi 2 f2 hf2
  rw [ht2, ho2, cellsI, List.getElem?_eq_getElem (by omega)] at g2
  obtain ⟨n2, hn2, _, hw2⟩ := DataW.trod_int Try.underlying3 g2
  have g3 := hi 3 f3 hf3
  rw [ht3, ho3, cellsS, List.getElem?_eq_getElem (by omega)] at g3
  obtain ⟨s, hs, _, hm⟩ := DataW.trod_string Try.underlying9 g3
  have g4 := hi 4 f4 hf4
  rw [ht4, ho4, cellsL, List.getElem?_eq_getElem (by omega)] at g4
  obtain ⟨kv, hkv, kl, hrow, _, hkl⟩ := trod_rows (k := 1) (ec := fun z : Int => [Value.int .i64 z]) (fun x : Int => RW.i64 x) Try.underlying37 (by kernel_rfl) (by decide) (fun _ => rfl) (fun _ cs _ _ h => by
    obtain ⟨z, hz, _, hw⟩ := DataW.trod_int Try.underlying3 h
    exact ⟨z, bounds_i64 hw, hz⟩) g4
  refine ⟨⟨n0, n1, n2, s, kv, kl⟩, ⟨⟨bounds_i64 hw0, bounds_i64 hw1, bounds_i64 hw2, by unfold maxLen at hm; exact hm⟩, hrow, hkl⟩, ?_⟩
  have e0 := one_at _ _ _ hn0
  have e1 := one_at _ _ _ hn1
  have e2 := one_at _ _ _ hn2
  have e3 := one_at _ _ _ hs
  have e4 := one_at _ _ _ hkv
  apply List.ext_getElem?
  intro i
  rcases Nat.lt_or_ge i 5 with h3 | h3
  · rcases i with _ | _ | _ | _ | _ | i
    · rw [e0]; rfl
    · rw [e1]; rfl
    · rw [e2]; rfl
    · rw [e3]; rfl
    · rw [e4]; rfl
    · omega
  · rw [List.getElem?_eq_none (by omega), List.getElem?_eq_none (by show 5 ≤ i; exact h3)]
set_option maxRecDepth 100000 in
theorem open_steps {r : Reach} {b0 : Nat} {v : Value} {d : DataW H} {ps : List MemPlace} (hval : Value.okWide Try.prog W r b0 32 v) (h : DataW.Trod enc Try.prog W 0 sp held 32 v d ps) :
    ∃ l : List RW.Sp, RowV 5 RW.spl W v l ∧ (∀ x ∈ l, SpIn W x) ∧ l.length ≤ 9223372036854775807 :=
  open_rows (k := 5) (ec := RW.spl) (fun y : RW.Sp => SpIn W y) Try.underlying32 (by kernel_rfl) (by decide) (fun _ => rfl) (fun _ _ _ hl h => open_spc hl h) hval h
end
end Go.Proofs.Ytehenjgggaedeaa

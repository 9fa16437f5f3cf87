/-
  Lists of strings, lists of such lists as arguments: what is read of them.
-/
import Derived.Deep.Slices
import Derived.Test.YtllbphanfahkkaaGreatDoorMQ1
import Derived.Test.YtllbphanfahkkaaGreatDoorJn13
namespace Go.Proofs.YtllbphanfahkkaaGreatDoor
open Go.ChangeShapes Go.WideShapes Go.ChangeAt Go.RowKit
theorem laidOut : laidOutB Tryz.prog = true := by kernel_rfl
section
variable {H : Type} {enc : TypeId × Value → H} {W : World} {sp : Nat → Bool} {held : Bool}
set_option maxRecDepth 100000 in
theorem trod_rows {α : Type} {k : Nat} {ec : α → List Value} {T E : TypeId} (good : α → Prop) (hu : Tryz.prog.underlying T = some (.slice E)) (hcl : Tryz.prog.cellsOf E = k) (h0 : 0 < k) (hlen : ∀ x, (ec x).length = k)
    (hel : ∀ (fuel : Nat) (cs : List Value) (x : DataW H × List MemPlace), cs.length = k → DataW.trod enc Tryz.prog W 0 sp held fuel E cs = some x → ∃ y : α, good y ∧ cs = ec y)
    {fuel : Nat} {cs : List Value} {x : DataW H × List MemPlace} (hf : DataW.trod enc Tryz.prog W 0 sp held fuel T cs = some x) :
    ∃ v, cs = [v] ∧ ∃ l : List α, RowV k ec W v l ∧ (∀ x ∈ l, good x) ∧ l.length ≤ 9223372036854775807 := by
  rcases Deep.open_slice hu hf with ⟨hcs, _⟩ | ⟨a', len, cap, m, n, D, Pl, hcs, hb, hl, hm, hmm, _, hall⟩
  · exact ⟨_, hcs, [], RowV.nil W, by simp, by simp⟩
  · refine ⟨_, hcs, ?_⟩
    have hlm : len ≤ m := by rw [hmm]; split <;> omega
    have key : ∀ i, i < len → ∃ y : α, good y ∧ ∀ j u, (ec y)[j]? = some u → W.cell? (a'.add (i * k + j)) = some u := fun i hi => by
      obtain ⟨cs', h1, h2⟩ := hall i (by omega)
      rw [hcl] at h1
      obtain ⟨_, hln, hc⟩ := World.cells?_some h1
      obtain ⟨y, hy, rfl⟩ := hel _ _ _ hln h2
      refine ⟨y, hy, fun j u hj => ?_⟩
      have hjk : j < k := by rw [← hln]; exact (List.getElem?_eq_some_iff.1 hj).1
      rw [← Deep.add_add, ← hj]
      exact hc j hjk
    rcases Nat.eq_zero_or_pos len with h00 | h00
    · subst h00
      exact ⟨[], ⟨some a', cap, rfl, Nat.zero_le _, .inl rfl⟩, by simp, by simp⟩
    · obtain ⟨y0, _, _⟩ := key 0 h00
      have : Nonempty α := ⟨y0⟩
      obtain ⟨X, hX⟩ := Classical.axiomOfChoice (r := fun (i : Fin len) (y : α) => good y ∧ ∀ j u, (ec y)[j]? = some u → W.cell? (a'.add (i.1 * k + j)) = some u) (fun i => key i.1 i.2)
      have hll : (List.ofFn X).length = len := List.length_ofFn
      have hget : ∀ i x, (List.ofFn X)[i]? = some x → ∃ hi : i < len, x = X ⟨i, hi⟩ := fun i x hx => by
        have hi := (List.getElem?_eq_some_iff.1 hx).1
        rw [hll] at hi
        refine ⟨hi, ?_⟩
        rw [List.getElem?_eq_getElem (by rw [hll]; exact hi), List.getElem_ofFn] at hx
        exact (Option.some.inj hx).symm
      refine ⟨List.ofFn X, ⟨some a', cap, by rw [hll], by rw [hll]; exact hl, .inr ?_⟩, fun x hx => ?_, by rw [hll]; unfold maxLen at hm; omega⟩
      · obtain ⟨b, off, spot⟩ := a'
        have hc0 : ∃ u, (ec (X ⟨0, h00⟩))[0]? = some u := ⟨_, List.getElem?_eq_getElem (by rw [hlen]; exact h0)⟩
        obtain ⟨u0, hu0⟩ := hc0
        have hr0 := (hX ⟨0, h00⟩).2 0 u0 hu0
        have hs : spot = none := by simpa [Addr.add] using World.cell?_spot hr0
        subst hs
        have hb2 : b < W.heap.size := by
          have := World.block_lt_of_cell? W _ hr0
          simpa [Addr.add] using this
        refine ⟨b, off, rfl, hb2, fun i x hx j u hj => ?_⟩
        obtain ⟨hi, rfl⟩ := hget i x hx
        have := (hX ⟨i, hi⟩).2 j u hj
        rwa [show ((⟨b, off, none⟩ : Addr).add (i * k + j)) = ⟨b, off + i * k + j, none⟩ by unfold Addr.add; split <;> simp_all [Nat.add_assoc]] at this
      · obtain ⟨i, hi⟩ := List.getElem?_of_mem hx
        obtain ⟨hi', rfl⟩ := hget i x hi
        exact (hX ⟨i, hi'⟩).1
theorem cellsSl : Tryz.prog.cellsOf 22 = 1 := by kernel_rfl
set_option maxRecDepth 100000 in
theorem trod_strs {fuel : Nat} {cs : List Value} {x : DataW H × List MemPlace} (hf : DataW.trod enc Tryz.prog W 0 sp held fuel 22 cs = some x) : ∃ v, cs = [v] ∧ ∃ l : List ByteArray, StrR W v l ∧ (∀ x ∈ l, x.size ≤ 9223372036854775807) ∧ l.length ≤ 9223372036854775807 :=
  trod_rows (k := 1) (ec := fun s => [Value.string s]) (fun x : ByteArray => x.size ≤ 9223372036854775807) Tryz.underlying22 (by kernel_rfl) (by decide) (fun _ => rfl) (fun _ cs _ _ h => by
    obtain ⟨z, hz, _, hw⟩ := DataW.trod_string Tryz.underlying9 h
    exact ⟨z, by unfold maxLen at hw; omega, hz⟩) hf
set_option maxRecDepth 100000 in
theorem trod_grps {fuel : Nat} {cs : List Value} {x : DataW H × List MemPlace} (hf : DataW.trod enc Tryz.prog W 0 sp held fuel 48 cs = some x) : ∃ v, cs = [v] ∧ ∃ ps : List (Value × List ByteArray), GrpR W v ps ∧ ps.length ≤ 9223372036854775807 := by
  obtain ⟨v, hv, l, h1, h2, h3⟩ := trod_rows (k := 1) (ec := fun p : Value × List ByteArray => [p.1]) (fun p : Value × List ByteArray => StrR W p.1 p.2 ∧ p.2.length ≤ 9223372036854775807) Tryz.underlying48 cellsSl (by decide) (fun _ => rfl) (fun _ cs _ _ h => by
    obtain ⟨v, rfl, l, h1, _, h2⟩ := trod_strs h
    exact ⟨(v, l), ⟨h1, h2⟩, rfl⟩) hf
  exact ⟨v, hv, l, ⟨h1, h2⟩, h3⟩
set_option maxRecDepth 100000 in
theorem cells_slice {t e : TypeId} (hu : Tryz.prog.underlying t = some (.slice e)) {r : Reach} {b0 : Nat} {v : Value} (hval : Value.okWide Tryz.prog W r b0 t v) : v.cells.toList = [v] := by
  obtain ⟨a, len, cap, rfl⟩ := okWide_slice hu hval
  rfl
set_option maxRecDepth 100000 in
theorem open_strsv {r : Reach} {b0 : Nat} {v : Value} {d : DataW H} {ps : List MemPlace} (hval : Value.okWide Tryz.prog W r b0 22 v) (h : DataW.Trod enc Tryz.prog W 0 sp held 22 v d ps) :
    ∃ l : List ByteArray, StrR W v l ∧ (∀ x ∈ l, x.size ≤ 9223372036854775807) ∧ l.length ≤ 9223372036854775807 := by
  obtain ⟨fuel, hf⟩ := h
  rw [cells_slice Tryz.underlying22 hval] at hf
  obtain ⟨v', hv, h⟩ := trod_strs hf
  cases hv
  exact h
set_option maxRecDepth 100000 in
theorem open_grps {r : Reach} {b0 : Nat} {v : Value} {d : DataW H} {ps : List MemPlace} (hval : Value.okWide Tryz.prog W r b0 48 v) (h : DataW.Trod enc Tryz.prog W 0 sp held 48 v d ps) :
    ∃ l : List (Value × List ByteArray), GrpR W v l ∧ l.length ≤ 9223372036854775807 := by
  obtain ⟨fuel, hf⟩ := h
  rw [cells_slice Tryz.underlying48 hval] at hf
  obtain ⟨v', hv, h⟩ := trod_grps hf
  cases hv
  exact h
end
end Go.Proofs.YtllbphanfahkkaaGreatDoor

/-
  A slice of arrays of five numbers as an argument: what is read of it.
-/
import Derived.Deep.Slices
import Derived.Test.YtcbckcojebanaaaDoorBCard
import Derived.Test.YtcbckcojebanaaaDoorBow
namespace Go.Proofs.YtcbckcojebanaaaDoor
open Go.ChangeShapes Go.WideShapes Go.ChangeAt Go.RowKit
section
variable {H : Type} {enc : TypeId × Value → H} {W : World} {sp : Nat → Bool} {held : Bool}
theorem laidOut : laidOutB Tryd.prog = true := by kernel_rfl
theorem cellsI : Tryd.prog.cellsOf 3 = 1 := by kernel_rfl
theorem cells5 : Tryd.prog.cellsOf 49 = 5 := by kernel_rfl
/-- five cells that read as an array of five numbers -/
theorem open_five {fuel : Nat} {cs : List Value} {x : DataW H × List MemPlace} (h : DataW.trod enc Tryd.prog W 0 sp held fuel 49 cs = some x) : ∃ f : Nat → Int, ∀ j, j < 5 → cs[j]? = some (.int .i64 (f j)) ∧ -9223372036854775808 ≤ f j ∧ f j ≤ 9223372036854775807 := by
  obtain ⟨xs, m, _, rfl, hl, hn, hall⟩ := DataW.trod_array Tryd.underlying49 h
  have key : ∀ j, j < 5 → ∃ z : Int, cs[j]? = some (.int .i64 z) ∧ -9223372036854775808 ≤ z ∧ z ≤ 9223372036854775807 := fun j hj => by
    have h1 := hall j hj
    rw [cellsI, Nat.mul_one, List.getElem?_eq_getElem (by omega)] at h1
    obtain ⟨z, hz1, _, hw⟩ := DataW.trod_int Tryd.underlying3 h1
    have hb := bounds_i64 hw
    refine ⟨z, ?_, hb.1, hb.2⟩
    have := congrArg (·[0]?) hz1
    simpa [List.getElem?_take, List.getElem?_drop] using this
  obtain ⟨f, hf⟩ := Deep.choose_lt (p := fun j z => cs[j]? = some (.int .i64 z) ∧ -9223372036854775808 ≤ z ∧ z ≤ 9223372036854775807) key
  exact ⟨f, hf⟩
set_option maxRecDepth 100000 in
theorem open_fives {r : Reach} {b0 : Nat} {v : Value} {d : DataW H} {ps : List MemPlace} (hval : Value.okWide Tryd.prog W r b0 42 v) (h : DataW.Trod enc Tryd.prog W 0 sp held 42 v d ps) :
    ∃ (m : Nat) (X : Nat → Nat → Int), FivesV W v m X ∧ (∀ i, i < m → ∀ j, j < 5 → -9223372036854775808 ≤ X i j ∧ X i j ≤ 9223372036854775807) ∧ m ≤ 9223372036854775807 := by
  obtain ⟨a, len, cap, rfl⟩ := okWide_slice Tryd.underlying42 hval
  obtain ⟨fuel, hf⟩ := h
  rcases Deep.open_slice Tryd.underlying42 hf with ⟨hcs, _⟩ | ⟨a', len', cap', m, n, D, Pl, hcs, hb, hl, hm, hmm, _, hall⟩
  · simp [Value.cells] at hcs
    obtain ⟨rfl, rfl, rfl⟩ := hcs
    exact ⟨0, fun _ _ => 0, ⟨none, 0, rfl, .inl rfl⟩, fun i hi => absurd hi (Nat.not_lt_zero _), Nat.zero_le _⟩
  · simp [Value.cells] at hcs
    obtain ⟨rfl, rfl, rfl⟩ := hcs
    have hlm : len ≤ m := by rw [hmm]; split <;> omega
    have key : ∀ i, i < len → ∃ f : Nat → Int, ∀ j, j < 5 → W.cell? (a'.add (i * 5 + j)) = some (.int .i64 (f j)) ∧ -9223372036854775808 ≤ f j ∧ f j ≤ 9223372036854775807 := fun i hi => by
      obtain ⟨cs', h1, h2⟩ := hall i (by omega)
      obtain ⟨f, hf⟩ := open_five h2
      rw [cells5] at h1
      obtain ⟨_, hlen, hc⟩ := World.cells?_some h1
      refine ⟨f, fun j hj => ⟨?_, (hf j hj).2⟩⟩
      rw [← (hf j hj).1, ← Deep.add_add]
      exact hc j (by omega)
    have ⟨X, hX⟩ := Deep.choose_lt (α := Nat → Int) (p := fun i f => ∀ j, j < 5 → W.cell? (a'.add (i * 5 + j)) = some (.int .i64 (f j)) ∧ -9223372036854775808 ≤ f j ∧ f j ≤ 9223372036854775807) key
    refine ⟨len, X, ⟨some a', cap, rfl, ?_⟩, fun i hi j hj => (hX i hi j hj).2, by unfold maxLen at hm; omega⟩
    rcases Nat.eq_zero_or_pos len with h0 | h0
    · exact .inl h0
    · right
      obtain ⟨b, off, spot⟩ := a'
      have hs : spot = none := by
        have := (hX 0 h0 0 (by decide)).1
        simpa [Addr.add] using World.cell?_spot this
      subst hs
      have hx : ∀ i, i < len → ∀ j, j < 5 → W.cell? ⟨b, off + i * 5 + j, none⟩ = some (.int .i64 (X i j)) := fun i hi j hj => by
        have := (hX i hi j hj).1
        rw [show ((⟨b, off, none⟩ : Addr).add (i * 5 + j)) = ⟨b, off + i * 5 + j, none⟩ by unfold Addr.add; split <;> simp_all [Nat.add_assoc]] at this
        exact this
      refine ⟨b, off, rfl, ?_, hx⟩
      have h1 := hx 0 h0 0 (by decide)
      unfold World.cell? at h1
      cases hh : W.heap[b]? with
      | none => simp [hh] at h1
      | some o => exact (Array.getElem?_eq_some_iff.1 hh).1
end
end Go.Proofs.YtcbckcojebanaaaDoor

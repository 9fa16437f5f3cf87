/-
  Ballot, the plain side of BallotOneWinner: counts add up to at most the number of sites; the votes of a box: no program in sight.
-/
import Derived.Test.YtcbckcojebanaaaDoorBdg
namespace Go.Proofs.YtcbckcojebanaaaDoor.RW
open Go Go.RowKit
/-- the counts of the votes' four digests, the first j of them -/
def cnt4 (L : List (Vk × ByteArray)) (kd h r : Int) (N : Nat) : Nat → Nat
  | 0 => 0
  | j + 1 => cnt4 L kd h r N j + cnt L kd h r (dgst (j : Int)) N
theorem one_of (o : Option ByteArray) : (if o = some (dgst 0) then 1 else 0) + (if o = some (dgst 1) then 1 else 0) + (if o = some (dgst 2) then 1 else 0) + (if o = some (dgst 3) then 1 else 0) ≤ 1 := by
  have h01 : dgst 0 ≠ dgst 1 := fun h => by have := dgst_inj 0 1 (by decide) (by decide) h; omega
  have h02 : dgst 0 ≠ dgst 2 := fun h => by have := dgst_inj 0 2 (by decide) (by decide) h; omega
  have h03 : dgst 0 ≠ dgst 3 := fun h => by have := dgst_inj 0 3 (by decide) (by decide) h; omega
  have h12 : dgst 1 ≠ dgst 2 := fun h => by have := dgst_inj 1 2 (by decide) (by decide) h; omega
  have h13 : dgst 1 ≠ dgst 3 := fun h => by have := dgst_inj 1 3 (by decide) (by decide) h; omega
  have h23 : dgst 2 ≠ dgst 3 := fun h => by have := dgst_inj 2 3 (by decide) (by decide) h; omega
  by_cases g0 : o = some (dgst 0)
  · subst g0; simp [h01, h02, h03]
  · by_cases g1 : o = some (dgst 1)
    · subst g1; simp [h01.symm, h12, h13]
    · by_cases g2 : o = some (dgst 2)
      · subst g2; simp [h02.symm, h12.symm, h23]
      · simp only [if_neg g0, if_neg g1, if_neg g2]
        split <;> simp
theorem cnt4_le (L : List (Vk × ByteArray)) (kd h r : Int) (N : Nat) : cnt4 L kd h r N 4 ≤ N := by
  have key : ∀ j, cnt L kd h r (dgst 0) j + cnt L kd h r (dgst 1) j + cnt L kd h r (dgst 2) j + cnt L kd h r (dgst 3) j ≤ j := by
    intro j
    induction j with
    | zero => exact Nat.le_refl _
    | succ j ih =>
      have h1 := one_of (voteAt L ((j : Int), kd, h, r))
      simp only [cnt]
      omega
  have h2 := key N
  simp only [cnt4]
  exact (by simpa using h2)
theorem cnt4_mono (L : List (Vk × ByteArray)) (kd h r : Int) (N : Nat) : ∀ j, j ≤ 4 → cnt4 L kd h r N j ≤ N := by
  intro j hj
  have h4 := cnt4_le L kd h r N
  have h' : j = 0 ∨ j = 1 ∨ j = 2 ∨ j = 3 ∨ j = 4 := by omega
  rcases h' with rfl | rfl | rfl | rfl | rfl <;> simp only [cnt4] at h4 ⊢ <;> omega
/-- the votes of a box behind i messages -/
def bxL (K : Nat → Int) (N : Int) (X : Nat → Nat → Int) : Nat → List (Vk × ByteArray)
  | 0 => []
  | i + 1 => addL (voteOk K N (vn (X i)) (vd (X i)).data.toList []) (vk (vn (X i))) (vd (X i)) (bxL K N X i)
theorem addL_from {ok : Bool} {N : Int} {n : Nat → Int} {d : ByteArray} {L : List (Vk × ByteArray)} (hL : ∀ x ∈ L, 0 ≤ x.1.1 ∧ x.1.1 < N) (h : ok = true → 0 ≤ n 1 ∧ n 1 < N) : ∀ x ∈ addL ok (vk n) d L, 0 ≤ x.1.1 ∧ x.1.1 < N := by
  intro x hx
  unfold addL at hx
  split at hx
  · rename_i ha
    rcases List.mem_append.1 hx with hx | hx
    · exact hL x hx
    · rw [List.mem_singleton] at hx
      subst hx
      unfold addOk at ha
      rw [Bool.and_eq_true] at ha
      exact h ha.1
  · exact hL x hx
theorem voteOk_from {K : Nat → Int} {N : Int} {n : Nat → Int} {d : List UInt8} {l : List (List UInt8)} (h : voteOk K N n d l = true) : 0 ≤ n 1 ∧ n 1 < N := by
  unfold voteOk at h
  simp only [Bool.and_eq_true, Bool.not_eq_true', decide_eq_false_iff_not] at h
  have h1 := h.1.2
  have hs : site (n 1) = true := by
    unfold msgB at h1
    simp only [Bool.and_eq_true] at h1
    exact h1.1.1.1
  unfold site at hs
  have := of_decide_eq_true hs
  omega
theorem bxL_from (K : Nat → Int) (N : Int) (X : Nat → Nat → Int) : ∀ i, ∀ x ∈ bxL K N X i, 0 ≤ x.1.1 ∧ x.1.1 < N
  | 0 => by simp [bxL]
  | i + 1 => addL_from (bxL_from K N X i) voteOk_from
theorem ahead_le {L : List (Vk × ByteArray)} {h r : Int} {S : List Int} {N : Nat} (hS : AheadOf L h r S) (hL : ∀ x ∈ L, 0 ≤ x.1.1 ∧ x.1.1 < (N : Int)) : S.length ≤ N := by
  have h1 : S ⊆ (List.range N).map (fun i : Nat => (i : Int)) := fun f hf => by
    obtain ⟨x, hx, rfl, _⟩ := (hS.2 f).1 hf
    obtain ⟨h1, h2⟩ := hL x hx
    exact List.mem_map.2 ⟨x.1.1.toNat, List.mem_range.2 (by omega), by omega⟩
  have h2 := hS.1.length_le_of_subset h1
  simpa using h2
theorem most_count {cn : ByteArray → Nat} {best : ByteArray} {most : Nat} (h : MostSpec cn best most) : cn best = most := by
  rcases h.1 with ⟨_, h2⟩ | ⟨_, h2⟩
  · rcases Nat.eq_zero_or_pos (cn best) with h3 | h3
    · omega
    · have := h.2 best h3; omega
  · exact h2.symm
end Go.Proofs.YtcbckcojebanaaaDoor.RW

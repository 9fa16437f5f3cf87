/-
  Ballot, the plain side: how long a valid message's strings are: no program in sight.
-/
import Derived.Test.YtcbckcojebanaaaDoorBal7
import Derived.Test.YtcbckcojebanaaaDoorBalQ
import Derived.Test.YtcbckcojebanaaaDoorBalR
namespace Go.Proofs.YtcbckcojebanaaaDoor.RW
open Go Go.RowKit
theorem bsha_len (K : Nat → Int) (l : List UInt8) : (sha K l).length = 32 := by simp [sha, dig]
theorem msgB_short (K n : Nat → Int) (d : List UInt8) (l : List (List UInt8)) (h : msgB K n d l = true) : d.length ≤ 32 ∧ ∀ s ∈ l, s.length ≤ 4000 := by
  have hnear : site (n 1) = true ∧ site (n 2) = true ∧ n 1 ≠ n 2 := Classical.byContradiction fun g => by rw [msgB_far g] at h; cases h
  rw [msgB_near hnear] at h
  split at h
  · simp only [plainB, Bool.and_eq_true, List.isEmpty_iff, List.all_eq_true, decide_eq_true_eq] at h
    refine ⟨by rw [h.1.1.2]; simp, fun s hs => (h.2 s hs).2⟩
  · split at h
    · simp only [plainB, Bool.and_eq_true, List.isEmpty_iff] at h
      refine ⟨by rw [h.1.1.2]; simp, fun s hs => ?_⟩
      have := (asc_lims h.2).2.2 s hs
      omega
    · split at h
      · simp only [Bool.and_eq_true, beq_iff_eq] at h
        refine ⟨by rw [h.2, bsha_len]; exact Nat.le_refl _, fun s hs => ?_⟩
        have := (asc_lims h.1.1.2).2.2 s hs
        omega
      · split at h
        · simp only [Bool.and_eq_true, Bool.or_eq_true, List.isEmpty_iff, beq_iff_eq] at h
          refine ⟨?_, fun s hs => by rw [h.1.2] at hs; cases hs⟩
          rcases h.2 with g | g
          · rw [g]; simp
          · omega
        · cases h
end Go.Proofs.YtcbckcojebanaaaDoor.RW

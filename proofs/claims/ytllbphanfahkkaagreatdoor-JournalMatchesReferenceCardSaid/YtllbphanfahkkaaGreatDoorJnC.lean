/-
  Journals, plain: what a power failure leaves of an Append: no program in sight.
-/
import Derived.Test.YtllbphanfahkkaaGreatDoorJnQ
import Derived.Test.YtllbphanfahkkaaGreatDoorRk4P
namespace Go.Proofs.YtllbphanfahkkaaGreatDoor.RW
open Go Go.RowKit
/-- a crash with one pending write leaves a part of it -/
theorem crash_one {S : Dk} {o : Nat} {s : List UInt8} (hp : S.pend = [(o, strOf s)]) (keep : List Int) (torn : Int) : ∃ k, k ≤ s.length ∧ S.crash keep torn = ⟨false, 0, lay S.dur o (s.take k), lay S.dur o (s.take k), []⟩ := by
  rw [crash_eq, hp]
  by_cases hk : keep.contains (0 : Int) = true
  · have e : keptL [(o, strOf s)] (fun j => keep.contains (j : Int)) [(o, strOf s)].length = [(o, strOf s)] := by
      show keptL _ _ (0 + 1) = _
      rw [kept_yes (x := (o, strOf s)) rfl (by simpa using hk), kept_zero]
      rfl
    rw [e]
    by_cases ht : 0 ≤ torn
    · refine ⟨min torn.toNat s.length, Nat.min_le_right _ _, ?_⟩
      have e2 : (tear torn (strOf s)).data.toList = s.take (min torn.toNat s.length) := by
        unfold tear
        rw [strOf_size]
        simp [strOf]
      simp [kfold, ht, e2]
    · refine ⟨s.length, Nat.le_refl _, ?_⟩
      simp [kfold, ht, strOf_list]
  · have e : keptL [(o, strOf s)] (fun j => keep.contains (j : Int)) [(o, strOf s)].length = [] := by
      show keptL _ _ (0 + 1) = _
      rw [kept_no (by simpa using hk), kept_zero]
    rw [e]
    exact ⟨0, Nat.zero_le _, by simp [kfold, lay_none]⟩
theorem crash_zero {S : Dk} (hp : S.pend = []) (keep : List Int) (torn : Int) : S.crash keep torn = ⟨false, 0, S.dur, S.dur, []⟩ := by
  rw [crash_eq, hp]
  rfl
section
variable (H : List UInt8 → List UInt8)
theorem lost_crash {n : Nat} {S' : Dk} {rs l : List ByteArray} (h : ∃ (o : Nat) (s : List UInt8), S'.pend = [(o, strOf s)] ∧ o + s.length ≤ n ∧ ∀ k, k ≤ s.length → (Lies H n (lay S'.dur o (s.take k)) rs ∨ Lies H n (lay S'.dur o (s.take k)) (rs ++ l))) (keep : List Int) (torn : Int) :
    ∃ c, S'.crash keep torn = ⟨false, 0, c, c, []⟩ ∧ (Lies H n c rs ∨ Lies H n c (rs ++ l)) := by
  obtain ⟨o, s, hp, _, hk⟩ := h
  obtain ⟨k, hk0, e⟩ := crash_one hp keep torn
  exact ⟨_, e, hk k hk0⟩
theorem inv_crash {n : Nat} {S : Dk} {rs : List ByteArray} (h : JInv H n S rs) (keep : List Int) (torn : Int) : ∃ c, S.crash keep torn = ⟨false, 0, c, c, []⟩ ∧ Lies H n c rs := by
  rw [crash_zero h.pend, h.dur]
  exact ⟨_, rfl, Lies.of_cont H h.fits h.lims⟩
end
end Go.Proofs.YtllbphanfahkkaaGreatDoor.RW

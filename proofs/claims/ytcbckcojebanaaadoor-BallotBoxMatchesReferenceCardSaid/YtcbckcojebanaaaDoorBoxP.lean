/-
  Ballot, the plain side of the fixed examples: votes, counts, the digest with most votes: no program in sight.
-/
import Derived.Test.YtcbckcojebanaaaDoorMZ3
import Derived.Test.YtcbckcojebanaaaDoorMZ4
import Derived.Test.YtcbckcojebanaaaDoorBal12
namespace Go.Proofs.YtcbckcojebanaaaDoor.RW
open Go Go.RowKit
/-- the numbers of a prevote from a to b at height 5, round 0 -/
def nV (a b : Int) (i : Nat) : Int := if i = 0 then 4 else if i = 1 then a else if i = 2 then b else if i = 3 then 5 else 0
theorem voteOk_nV (K : Nat → Int) (d : List UInt8) (hd : d.length = 32 ∨ d = []) (a b : Int) (h : (a = 1 ∧ b = 2) ∨ (a = 2 ∧ b = 1)) : voteOk K 4 (nV a b) d [] = true ∧ msgB K (nV a b) d [] = true := by
  have hm : msgB K (nV a b) d [] = true := by
    have hdd : (d.isEmpty || d.length == 32) = true := by
      rcases hd with h | rfl
      · rw [h]; simp
      · rfl
    rcases h with ⟨rfl, rfl⟩ | ⟨rfl, rfl⟩ <;> simp [msgB, nV, site, voteK, placedB, hdd]
  refine ⟨?_, hm⟩
  unfold voteOk
  rw [hm]
  rcases h with ⟨rfl, rfl⟩ | ⟨rfl, rfl⟩ <;> simp [nV, voteK]
theorem vk_nV (a b : Int) : vk (nV a b) = (a, 4, 5, 0) := rfl
/-- the example's two votes -/
def L2 (D : ByteArray) : List (Vk × ByteArray) := [((1, 4, 5, 0), D), ((2, 4, 5, 0), ⟨#[]⟩)]
theorem cnt_L2 (D d : ByteArray) : cnt (L2 D) 4 5 0 d 4 = (if D = d then 1 else 0) + (if (⟨#[]⟩ : ByteArray) = d then 1 else 0) := by
  simp [cnt, voteAt, L2]
theorem most_L2 (D : ByteArray) (hD : D ≠ ⟨#[]⟩) (best : ByteArray) (most : Nat) (h : MostSpec (fun d => cnt (L2 D) 4 5 0 d 4) best most) : best = ⟨#[]⟩ ∧ most = 1 := by
  refine h.unique ⟨.inr ⟨by decide, ?_⟩, fun d hd => ?_⟩
  · simp only [cnt_L2]
    rw [if_neg hD]; simp
  · simp only [cnt_L2] at hd ⊢
    refine .inr ⟨?_, ?_⟩
    · by_cases h1 : D = d
      · subst h1; rw [if_pos rfl, if_neg (Ne.symm hD)]
      · rw [if_neg h1] at hd ⊢
        by_cases h2 : (⟨#[]⟩ : ByteArray) = d
        · rw [if_pos h2]
        · rw [if_neg h2] at hd; omega
    · rw [show (⟨#[]⟩ : ByteArray).toList = [] by rw [ByteArray.toList_eq]]
      cases d.toList <;> rfl
theorem count_L2 (D : ByteArray) (hD : D ≠ ⟨#[]⟩) : cnt (L2 D) 4 5 0 D 4 = 1 := by
  rw [cnt_L2, if_pos rfl, if_neg (Ne.symm hD)]
theorem ahead_len {L : List (Vk × ByteArray)} {h r : Int} {S : List Int} (hS : AheadOf L h r S) (T : List Int) (hT : T.Nodup) (hm : ∀ f, f ∈ T ↔ ∃ x ∈ L, x.1.1 = f ∧ aheadK h r x.1 = true) : S.length = T.length :=
  ((List.perm_ext_iff_of_nodup hS.1 hT).2 fun f => (hS.2 f).trans (hm f).symm).length_eq
theorem ahead_L2 (D : ByteArray) {S : List Int} (hS : AheadOf (L2 D) 5 0 S) : S.length = 2 := by
  refine ahead_len hS [1, 2] (by decide) fun f => ?_
  constructor
  · intro hf
    simp at hf
    rcases hf with rfl | rfl
    · exact ⟨((1, 4, 5, 0), D), by simp [L2], rfl, rfl⟩
    · exact ⟨((2, 4, 5, 0), ⟨#[]⟩), by simp [L2], rfl, rfl⟩
  · rintro ⟨x, hx, rfl, _⟩
    simp [L2] at hx
    rcases hx with rfl | rfl <;> simp
theorem ahead_L2' (D : ByteArray) {S : List Int} (hS : AheadOf (L2 D) 5 1 S) : S.length = 0 := by
  refine ahead_len hS [] (by simp) fun f => ?_
  simp [L2, aheadK]
theorem add_L0 (D : ByteArray) : addL true (vk (nV 1 2)) D [] = [((1, 4, 5, 0), D)] ∧ addOk true (vk (nV 1 2)) [] = true := ⟨rfl, rfl⟩
theorem add_L1 (D E : ByteArray) : addL true (vk (nV 1 2)) E [((1, 4, 5, 0), D)] = [((1, 4, 5, 0), D)] ∧ addOk true (vk (nV 1 2)) [((1, 4, 5, 0), D)] = false := ⟨rfl, rfl⟩
theorem add_L1' (D : ByteArray) : addL true (vk (nV 2 1)) ⟨#[]⟩ [((1, 4, 5, 0), D)] = L2 D ∧ addOk true (vk (nV 2 1)) [((1, 4, 5, 0), D)] = true := ⟨rfl, rfl⟩
theorem val_nil : (⟨(valL []).toArray⟩ : ByteArray) = ⟨#[0]⟩ := by decide
theorem zero_bad (K : Nat → Int) : msgB K (fun _ => 0) [] [] = false := by simp [msgB, site]
end Go.Proofs.YtcbckcojebanaaaDoor.RW

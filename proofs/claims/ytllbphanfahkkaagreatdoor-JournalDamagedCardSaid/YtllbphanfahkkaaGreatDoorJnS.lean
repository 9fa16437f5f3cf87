/-
  Journals, plain: what an attempt, a power failure and an opening leave behind: no program in sight.
-/
import Derived.Test.YtllbphanfahkkaaGreatDoorMY7
import Derived.Test.YtllbphanfahkkaaGreatDoorJn11
namespace Go.Proofs.YtllbphanfahkkaaGreatDoor.RW
open Go Go.RowKit
section
variable {H : List UInt8 → List UInt8} (hH : ∀ l, (H l).length = 32)
/-- whatever survives a power failure, the disk then holds one of two lists of records -/
def EndP (H : List UInt8 → List UInt8) (n : Nat) (S : Dk) (was want : List ByteArray) : Prop := ∀ (keep : List Int) (torn : Int), ∃ c, S.crash keep torn = ⟨false, 0, c, c, []⟩ ∧ (Lies H n c was ∨ Lies H n c want)
theorem EndP.inv {n : Nat} {S : Dk} {rs : List ByteArray} (h : JInv H n S rs) : EndP H n S rs rs := fun keep torn => by
  obtain ⟨c, h1, h2⟩ := inv_crash H h keep torn
  exact ⟨c, h1, .inl h2⟩
/-- the disk with a cut scheduled -/
def Dk.cutAt (S : Dk) (k : Nat) : Dk := ⟨false, k, S.dur, S.vis, S.pend⟩
theorem inv_cutAt {n : Nat} {S : Dk} {rs : List ByteArray} (h : JInv H n S rs) (k : Nat) (hk : 1 ≤ k) : S.cut (k : Int) = (0, S.cutAt k) ∧ JInv H n (S.cutAt k) rs := by
  refine ⟨?_, h.vis, h.dur, h.pend, rfl, h.fits, h.lims⟩
  unfold Dk.cut Dk.cutAt
  rw [if_neg (by rw [h.off]; simp), if_neg (by omega), decide_eq_false (by omega), Int.toNat_natCast]
include hH
/-- an attempt while a cut may be scheduled: acknowledged, refused, or the power lost -/
theorem japp_end {n : Nat} {S : Dk} {rs : List ByteArray} (h : JInv H n S rs) (l : List ByteArray) (hl : ∀ r ∈ l, r.size ≤ 65536) :
    (∃ S', japp H n S rs false l = (0, rs ++ l, false, S') ∧ JInv H n S' (rs ++ l) ∧ (S.left = 0 → S'.left = 0)) ∨
    japp H n S rs false l = (231, rs, false, S) ∨
    (∃ S', japp H n S rs false l = (221, rs, true, S') ∧ S'.off = true ∧ S.left ≠ 0 ∧ EndP H n S' rs (rs ++ l) ∧ S'.pend.length = 1 ∧ S'.ok n) := by
  have hj := japp_out H hH h l
  by_cases hf : n - (stos H z32 rs).length < (stos H (hds H z32 rs) l).length
  · exact .inr (.inl (japp_full (no_long hl) hf))
  by_cases hnil : l = []
  · subst hnil
    rw [List.append_nil]
    exact .inl ⟨S, japp_none, h, id⟩
  generalize hX : japp H n S rs false l = X at hj
  cases hj with
  | same e he =>
    exfalso
    obtain ⟨R, hR⟩ : ∃ R, R = (if (wrsy n S ((stos H z32 rs).length + 1) ((stos H (hds H z32 rs) l).drop 1)).1 ≠ 0 then wrsy n S ((stos H z32 rs).length + 1) ((stos H (hds H z32 rs) l).drop 1) else wrsy n (wrsy n S ((stos H z32 rs).length + 1) ((stos H (hds H z32 rs) l).drop 1)).2 (stos H z32 rs).length ((stos H (hds H z32 rs) l).take 1)) := ⟨_, rfl⟩
    rw [japp_wr (no_long hl) hf hnil hR] at hX
    obtain ⟨R1, R2⟩ := R
    by_cases h0 : R1 ≠ 0
    · rw [if_pos h0] at hX
      injection hX with _ e2
      injection e2 with _ e3
      injection e3 with e4
      cases e4
    · rw [if_neg h0] at hX
      injection hX with e2
      omega
  | empty he => exact absurd he hnil
  | all S' g g0 => exact .inl ⟨S', rfl, g, g0⟩
  | lost S' hoff h0 hp =>
    refine .inr (.inr ⟨S', rfl, hoff, h0, fun keep torn => lost_crash H hp keep torn, ?_, ?_⟩)
    · obtain ⟨o, s, hp, _⟩ := hp
      rw [hp]
      rfl
    · obtain ⟨o, s, hp, hn, _⟩ := hp
      intro x hx
      rw [hp] at hx
      rcases List.mem_cons.1 hx with rfl | hx
      · show o + (strOf s).size ≤ n
        rw [strOf_size]
        exact hn
      · cases hx
omit hH
end
end Go.Proofs.YtllbphanfahkkaaGreatDoor.RW

/-
  The walks of royaltyref01.Int, String, PutString and of wire.PutString: what each returns; old memory as it was.
-/
import Derived.Test.YtllbphanfahkkaaDoorWire2
namespace Go.Proofs.YtllbphanfahkkaaDoor
open Go.RowKit Go.Shelf
namespace RW
theorem add_step (k z b : Nat) (hk : k < 9) (hz : z < 2 ^ (7 * k)) :
    IntKind.u64.wrap ((z : Int) + IntKind.u64.wrap ((b : Int) % 128 * 2 ^ (7 * k))) = ((z + (b % 128) * 2 ^ (7 * k) : Nat) : Int) := by
  have h1 := pow_step k z b hz
  have h2 := pow9 (k + 1) (by omega)
  have e3 : ((b : Int) % 128) * 2 ^ (7 * k) = (((b % 128) * 2 ^ (7 * k) : Nat) : Int) := by
    rw [Int.natCast_mul, Int.natCast_pow]; rfl
  rw [e3, IntKind.wrap_u64, IntKind.wrap_u64]; omega
theorem canon (s : ByteArray) (a k z : Nat) (hk : k < 9) (hin : a + k < s.size) (hv : z = val ((s.data.toList.drop a).take (k + 1))) (ht : (s.data.toList.drop a).take (k + 1) = (s.data.toList.drop a).take k ++ [s[a + k]])
    (hall : ∀ c ∈ (s.data.toList.drop a).take k, 128 ≤ c.toNat) (hb : s[a + k].toNat < 128) (S : ByteArray) (hS : S = ⟨(putI (uz z)).toArray⟩) :
    (S.toList == (s.extract a (a + k + 1)).toList) = decide (¬ (s[a + k].toNat = 0 ∧ 0 < k)) := by
  have hl : ((s.data.toList.drop a).take k).length = k := List.length_take_of_le (by simp; omega)
  have h := enc_val 10 ((s.data.toList.drop a).take k) s[a + k] (by omega) hall hb
  rw [← ht, ← hv, hl] at h
  rw [extract_eq s a (a + k + 1) (by omega), show a + k + 1 - a = k + 1 by omega, ByteArray.toList_eq, ByteArray.toList_eq, hS]
  unfold putI
  rw [zz_uz, Bool.eq_iff_iff, beq_iff_eq, decide_eq_true_iff]
  exact h
end RW
end Go.Proofs.YtllbphanfahkkaaDoor

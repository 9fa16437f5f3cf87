/-
  Plain laws on the encodings of numbers and strings: what is encoded is decoded, what is decoded was encoded, and more bytes make no difference to what was read: no program in sight.
-/
import Derived.Test.YtllbphanfahkkaaDoorWire4
namespace Go.Proofs.YtllbphanfahkkaaDoor.RW
open Go Go.RowKit
theorem pow7 (k : Nat) : 2 ^ (7 * (k + 1)) = 128 * 2 ^ (7 * k) := by rw [Nat.mul_add, Nat.pow_add]; omega
theorem uz_zz (n : Int) : uz (zz n) = n := by unfold uz zz; split <;> split <;> omega
theorem byte_toNat (n : Nat) (h : n < 256) : (UInt8.ofNat n).toNat = n := by rw [UInt8.toNat_ofNat']; omega
theorem decG_enc (g : Nat) : ∀ (f i z y : Nat) (rest : List UInt8), y < 2 ^ (7 * f) → 0 < f → y < 2 ^ (7 * g) → 0 < g → (i = 0 ∨ 0 < y) → -maxI ≤ uz (z + y * 2 ^ (7 * i)) →
    decG f i z (encF g y ++ rest) = some (uz (z + y * 2 ^ (7 * i)), i + (encF g y).length) := by
  induction g with
  | zero => intro f i z y rest _ _ _ h; omega
  | succ g ih =>
    intro f i z y rest hf hf0 hg _ h0 hm
    obtain ⟨f, rfl⟩ : ∃ f', f = f' + 1 := ⟨f - 1, by omega⟩
    have h128 : y % 128 < 128 := Nat.mod_lt _ (by decide)
    by_cases hy : y < 128
    · rw [encF, if_pos hy, List.singleton_append, decG_cons, byte_toNat _ (by omega), if_neg (by omega), Nat.mod_eq_of_lt hy, if_neg (by omega)]
      rfl
    · rw [encF, if_neg hy, List.cons_append, decG_cons, byte_toNat _ (by omega), if_pos (by omega), show (y % 128 + 128) % 128 = y % 128 by omega]
      have hf1 : y / 128 < 2 ^ (7 * f) := by rw [pow7] at hf; omega
      have hg1 : y / 128 < 2 ^ (7 * g) := by rw [pow7] at hg; omega
      have hf0' : 0 < f := by
        rcases Nat.eq_zero_or_pos f with h | h
        · subst h; simp at hf1; omega
        · exact h
      have hg0' : 0 < g := by
        rcases Nat.eq_zero_or_pos g with h | h
        · subst h; simp at hg1; omega
        · exact h
      have e : z + y % 128 * 2 ^ (7 * i) + y / 128 * 2 ^ (7 * (i + 1)) = z + y * 2 ^ (7 * i) := by
        rw [pow7, Nat.add_assoc, ← Nat.mul_assoc, ← Nat.add_mul, show y % 128 + y / 128 * 128 = y by omega]
      rw [ih f (i + 1) (z + y % 128 * 2 ^ (7 * i)) (y / 128) rest hf1 hf0' hg1 hg0' (.inr (by omega)) (by rw [e]; exact hm), e, List.length_cons]
      congr 2
      omega
theorem decI_putI (n : Int) (h1 : -4611686018427387903 ≤ n) (h2 : n ≤ 4611686018427387903) (rest : List UInt8) : decI (putI n ++ rest) = some (n, (putI n).length) := by
  have hz := zz_lt n h1 h2
  have h := decG_enc 10 9 0 0 (zz n) rest (by omega) (by omega) (by omega) (by omega) (.inl rfl) (by simp [uz_zz, maxI]; omega)
  unfold decI putI
  rw [h]
  simp [uz_zz]
theorem encF_fuel (g : Nat) : ∀ y, y < 2 ^ (7 * g) → 0 < g → encF (g + 1) y = encF g y := by
  induction g with
  | zero => intro y _ h; omega
  | succ g ih =>
    intro y hy _
    by_cases h : y < 128
    · rw [encF, if_pos h, encF, if_pos h]
    · have h1 : y / 128 < 2 ^ (7 * g) := by rw [pow7] at hy; omega
      have h2 : 0 < g := by
        rcases Nat.eq_zero_or_pos g with e | e
        · subst e; simp at h1; omega
        · exact e
      rw [encF, if_neg h, ih _ h1 h2]
      conv => rhs; rw [encF, if_neg h]
theorem decG_take (f : Nat) : ∀ (i z : Nat) (l : List UInt8) (n : Int) (k : Nat), decG f i z l = some (n, k) →
    ∃ y, n = uz (z + y * 2 ^ (7 * i)) ∧ y < 2 ^ (7 * f) ∧ (i = 0 ∨ 0 < y) ∧ l.take (k - i) = encF f y := by
  induction f with
  | zero => intro i z l n k h; rw [decG_zero] at h; cases h
  | succ f ih =>
    intro i z l n k h
    cases l with
    | nil => cases h
    | cons b l =>
      have hb := b.toNat_lt
      rw [decG_cons] at h
      split at h
      · rename_i h128
        have hk := decG_le _ _ _ _ _ _ h
        obtain ⟨y, hn, hy, h0, ht⟩ := ih _ _ _ _ _ h
        have hy0 : 0 < y := by rcases h0 with h0 | h0 <;> omega
        refine ⟨b.toNat % 128 + y * 128, ?_, by rw [pow7]; omega, .inr (by omega), ?_⟩
        · rw [hn, pow7, Nat.add_mul, Nat.mul_assoc, Nat.add_assoc]
        · rw [encF, if_neg (by omega), show k - i = (k - (i + 1)) + 1 by omega, List.take_succ_cons, ht, show (b.toNat % 128 + y * 128) % 128 + 128 = b.toNat by omega, show (b.toNat % 128 + y * 128) / 128 = y by omega]
          simp
      · rename_i h128
        split at h
        · cases h
        · rename_i hc
          simp at h
          obtain ⟨h1, h2⟩ := h
          refine ⟨b.toNat, ?_, by rw [pow7]; have := Nat.two_pow_pos (7 * f); omega, by omega, ?_⟩
          · rw [← h1, Nat.mod_eq_of_lt (by omega)]
          · rw [encF, if_pos (by omega), show k - i = 0 + 1 by omega, List.take_succ_cons]; simp
theorem decI_take (l : List UInt8) (n : Int) (k : Nat) (h : decI l = some (n, k)) : l.take k = putI n := by
  obtain ⟨y, hn, hy, _, ht⟩ := decG_take 9 0 0 l n k h
  have e : zz n = y := by rw [hn]; simp [zz_uz]
  rw [Nat.sub_zero] at ht
  rw [ht]
  unfold putI
  rw [e]
  exact (encF_fuel 9 y hy (by decide)).symm
theorem decG_append (f : Nat) : ∀ (i z : Nat) (l m : List UInt8) (n : Int) (k : Nat), decG f i z l = some (n, k) → decG f i z (l ++ m) = some (n, k) := by
  induction f with
  | zero => intro i z l m n k h; rw [decG_zero] at h; cases h
  | succ f ih =>
    intro i z l m n k h
    cases l with
    | nil => cases h
    | cons b l =>
      rw [List.cons_append, decG_cons]
      rw [decG_cons] at h
      split at h
      · rename_i hb; rw [if_pos hb]; exact ih _ _ _ _ _ _ h
      · rename_i hb; rw [if_neg hb]; exact h
theorem decI_append (l m : List UInt8) (n : Int) (k : Nat) (h : decI l = some (n, k)) : decI (l ++ m) = some (n, k) := decG_append _ _ _ _ _ _ _ h
theorem decS_putS (s rest : List UInt8) (h : s.length ≤ 65536) : decS (putS s ++ rest) = some (s, (putS s).length) := by
  unfold putS
  have hI := decI_putI s.length (by omega) (by omega) (s ++ rest)
  rw [List.append_assoc, decS_some _ _ _ hI, if_neg (by simp; omega)]
  simp
theorem decS_take (l t : List UInt8) (c : Nat) (h : decS l = some (t, c)) : l.take c = putS t ∧ t.length ≤ 65536 := by
  rcases hI : decI l with _ | ⟨n, k⟩
  · rw [decS_none _ hI] at h; cases h
  · rw [decS_some _ _ _ hI] at h
    have hk := decI_le _ _ _ hI
    have ht := decI_take _ _ _ hI
    split at h
    · cases h
    · rename_i hc
      simp at h
      obtain ⟨h1, h2⟩ := h
      have hl : t.length = n.toNat := by rw [← h1]; simp; omega
      refine ⟨?_, by omega⟩
      unfold putS
      rw [← h2, List.take_add, ht, h1, hl]
      congr 2
      omega
theorem decS_append (l m t : List UInt8) (c : Nat) (h : decS l = some (t, c)) : decS (l ++ m) = some (t, c) := by
  rcases hI : decI l with _ | ⟨n, k⟩
  · rw [decS_none _ hI] at h; cases h
  · rw [decS_some _ _ _ hI] at h
    have hk := decI_le _ _ _ hI
    rw [decS_some _ _ _ (decI_append l m n k hI)]
    split at h
    · cases h
    · rename_i hc
      rw [if_neg (by simp; omega), ← h, List.drop_append_of_le_length (by omega), List.take_append_of_le_length (by simp; omega)]
end Go.Proofs.YtllbphanfahkkaaDoor.RW

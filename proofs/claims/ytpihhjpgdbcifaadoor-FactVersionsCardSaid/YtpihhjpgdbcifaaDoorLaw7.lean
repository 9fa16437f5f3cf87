/-
  Prevailing: a strict order on valid facts with the same key, total but for equal facts: no program in sight.
-/
import Derived.Test.YtpihhjpgdbcifaaDoorLaw5
namespace Go.Proofs.YtpihhjpgdbcifaaDoor.RW
open Go Go.RowKit
theorem u8_tri (a b : UInt8) : a < b ∨ a = b ∨ b < a := by
  rcases Nat.lt_trichotomy a.toNat b.toNat with h | h | h
  · exact .inl h
  · exact .inr (.inl (UInt8.toNat_inj.1 h))
  · exact .inr (.inr h)
theorem u8_asymm (a b : UInt8) (h : a < b) : ¬ b < a := Nat.lt_asymm h
theorem u8_irrefl (a : UInt8) : ¬ a < a := Nat.lt_irrefl _
theorem cmp_flip : ∀ l m : List UInt8, Lib.compareBytes m l = - Lib.compareBytes l m
  | [], [] => rfl
  | [], _ :: _ => rfl
  | _ :: _, [] => rfl
  | a :: l, b :: m => by
    rw [Lib.compareBytes, Lib.compareBytes]
    rcases u8_tri a b with h | h | h
    · rw [if_neg (u8_asymm _ _ h), if_pos h, if_pos h]; rfl
    · subst h
      rw [if_neg (u8_irrefl _), if_neg (u8_irrefl _), if_neg (u8_irrefl _), if_neg (u8_irrefl _)]
      exact cmp_flip l m
    · rw [if_pos h, if_neg (u8_asymm _ _ h), if_pos h]
theorem cmp_zero : ∀ l m : List UInt8, Lib.compareBytes l m = 0 → l = m
  | [], [], _ => rfl
  | [], _ :: _, h => by cases h
  | _ :: _, [], h => by cases h
  | a :: l, b :: m, h => by
    rw [Lib.compareBytes] at h
    rcases u8_tri a b with h1 | h1 | h1
    · rw [if_pos h1] at h; cases h
    · subst h1
      rw [if_neg (u8_irrefl _), if_neg (u8_irrefl _)] at h
      rw [cmp_zero l m h]
    · rw [if_neg (u8_asymm _ _ h1), if_pos h1] at h; cases h
theorem cmp_trans : ∀ l m k : List UInt8, 0 < Lib.compareBytes l m → 0 < Lib.compareBytes m k → 0 < Lib.compareBytes l k
  | _, [], [], _, h => by cases h
  | _, [], _ :: _, _, h => by cases h
  | [], b :: m, k, h, _ => by cases h
  | _ :: _, b :: m, [], _, _ => by rw [Lib.compareBytes]; decide
  | a :: l, b :: m, c :: k, h1, h2 => by
    rw [Lib.compareBytes] at h1 h2 ⊢
    rcases u8_tri a b with h | h | h
    · rw [if_pos h] at h1; cases h1
    · subst h
      rw [if_neg (u8_irrefl _), if_neg (u8_irrefl _)] at h1
      rcases u8_tri a c with h | h | h
      · rw [if_pos h] at h2; cases h2
      · subst h
        rw [if_neg (u8_irrefl _), if_neg (u8_irrefl _)] at h2 ⊢
        exact cmp_trans l m k h1 h2
      · rw [if_neg (u8_asymm _ _ h), if_pos h]; decide
    · rcases u8_tri b c with h' | h' | h'
      · rw [if_pos h'] at h2; cases h2
      · subst h'
        rw [if_neg (u8_asymm _ _ h), if_pos h]; decide
      · have hac : c < a := Nat.lt_trans h' h
        rw [if_neg (u8_asymm _ _ hac), if_pos hac]; decide
theorem prev_irrefl (f : Nat → Int) (s : ByteArray) : prevB f f s s = false := by
  refine dec_false (fun h => ?_)
  rcases h.2.2.2 with h | h
  · omega
  · have := h.2; rw [cmp_self] at this; omega
theorem prev_trans (f g k : Nat → Int) (s u v : ByteArray) (h1 : prevB f g s u = true) (h2 : prevB g k u v = true) : prevB f k s v = true := by
  have h1 := (dec_iff _).1 h1
  have h2 := (dec_iff _).1 h2
  refine dec_true ⟨h1.1, h2.2.1, ⟨h1.2.2.1.1.trans h2.2.2.1.1, h1.2.2.1.2.1.trans h2.2.2.1.2.1, h1.2.2.1.2.2.trans h2.2.2.1.2.2⟩, ?_⟩
  rcases h1.2.2.2 with a | ⟨a, a'⟩ <;> rcases h2.2.2.2 with b | ⟨b, b'⟩
  · left; omega
  · left; omega
  · left; omega
  · exact .inr ⟨by omega, cmp_trans _ _ _ a' b'⟩
theorem prev_asymm (f g : Nat → Int) (s u : ByteArray) : (prevB f g s u && prevB g f u s) = false := by
  cases h1 : prevB f g s u
  · rfl
  · cases h2 : prevB g f u s
    · rfl
    · have := prev_trans f g f s u s h1 h2
      rw [prev_irrefl] at this; cases this
theorem prev_version (f g : Nat → Int) (s u : ByteArray) (h : prevB f g s u = true) : ¬ f 2 < g 2 := by
  have h := (dec_iff _).1 h
  rcases h.2.2.2 with h | h <;> omega
/-- what the law calls comparable -/
noncomputable def compB (f g : Nat → Int) (s u : ByteArray) : Bool := validB f s.size && (validB g u.size && dec (f 0 = g 0 ∧ (keyV f).1 = (keyV g).1 ∧ (keyV f).2 = (keyV g).2))
theorem prev_total (f g : Nat → Int) (s u : ByteArray) : (prevB f g s u || prevB g f u s) = (compB f g s u && !dec (feq f g s u)) := by
  rw [Bool.eq_iff_iff]
  simp only [Bool.or_eq_true, compB, Bool.and_eq_true, Bool.not_eq_true']
  constructor
  · intro h
    have hk : validB f s.size = true ∧ validB g u.size = true ∧ dec (f 0 = g 0 ∧ (keyV f).1 = (keyV g).1 ∧ (keyV f).2 = (keyV g).2) = true := by
      rcases h with h | h
      · have h := (dec_iff _).1 h; exact ⟨h.1, h.2.1, dec_true h.2.2.1⟩
      · have h := (dec_iff _).1 h; exact ⟨h.2.1, h.1, dec_true ⟨h.2.2.1.1.symm, h.2.2.1.2.1.symm, h.2.2.1.2.2.symm⟩⟩
    refine ⟨⟨hk.1, hk.2.1, hk.2.2⟩, dec_false (fun he => ?_)⟩
    have hE := enc_inj f g s u hk.1 hk.2.1
    rw [dec_true he] at hE
    have hE := (dec_iff _).1 hE
    have hE2 : encL f s.data.toList = encL g u.data.toList := by have := congrArg (fun x : ByteArray => x.data.toList) hE; simpa using this
    have h2 : f 2 = g 2 := he.1 2 (by decide)
    rcases h with h | h
    · have h := (dec_iff _).1 h
      rcases h.2.2.2 with h | h
      · omega
      · have := h.2; rw [hE2, cmp_self] at this; omega
    · have h := (dec_iff _).1 h
      rcases h.2.2.2 with h | h
      · omega
      · have := h.2; rw [hE2, cmp_self] at this; omega
  · rintro ⟨⟨hf, hg, hk⟩, hn⟩
    have hk := (dec_iff _).1 hk
    have hE := enc_inj f g s u hf hg
    rw [hn] at hE
    have hne : encL f s.data.toList ≠ encL g u.data.toList := fun h => by rw [h, dec_true rfl] at hE; cases hE
    rcases Int.lt_trichotomy (f 2) (g 2) with h | h | h
    · exact .inr (dec_true ⟨hg, hf, ⟨hk.1.symm, hk.2.1.symm, hk.2.2.symm⟩, .inl h⟩)
    · rcases Int.lt_trichotomy 0 (Lib.compareBytes (encL f s.data.toList) (encL g u.data.toList)) with h3 | h3 | h3
      · exact .inl (dec_true ⟨hf, hg, hk, .inr ⟨h, h3⟩⟩)
      · exact absurd (cmp_zero _ _ h3.symm) hne
      · refine .inr (dec_true ⟨hg, hf, ⟨hk.1.symm, hk.2.1.symm, hk.2.2.symm⟩, .inr ⟨h.symm, ?_⟩⟩)
        rw [cmp_flip]; omega
    · exact .inl (dec_true ⟨hf, hg, hk, .inl h⟩)
end Go.Proofs.YtpihhjpgdbcifaaDoor.RW

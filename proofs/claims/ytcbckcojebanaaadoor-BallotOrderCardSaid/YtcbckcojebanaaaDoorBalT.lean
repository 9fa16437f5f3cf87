/-
  Ballot, the plain side: a message read step by step is the message that decM reads: no program in sight.
-/
import Derived.Test.YtcbckcojebanaaaDoorBal11
import Derived.Test.YtcbckcojebanaaaDoorBalS
namespace Go.Proofs.YtcbckcojebanaaaDoor.RW
open Go Go.RowKit
def upd (f : Nat → Int) (j : Nat) (n : Int) (i : Nat) : Int := if i = j then n else f i
def rdN (l : List UInt8) : Nat → (Nat → Int) × Nat × Bool
  | 0 => (fun _ => 0, 0, false)
  | j + 1 => (upd (rdN l j).1 j (rdI l (rdN l j).2).1, (rdI l (rdN l j).2).2)
def rdL (l : List UInt8) (p : Nat × Bool) : Nat → List (List UInt8) × Nat × Bool
  | 0 => ([], p)
  | i + 1 => ((rdL l p i).1 ++ [(rdS l (rdL l p i).2).1], (rdS l (rdL l p i).2).2)
theorem rdI_le (l : List UInt8) (p : Nat × Bool) (h : p.1 ≤ l.length) : (rdI l p).2.1 ≤ l.length := by
  obtain ⟨a, b⟩ := p
  cases b with
  | true => exact h
  | false =>
    simp only [rdI]
    rcases hD : decI (l.drop a) with _ | ⟨n, k⟩
    · simp
    · have := decI_le _ _ _ hD
      have h2 : (l.drop a).length = l.length - a := by simp
      simp only
      have : a ≤ l.length := h
      omega
theorem rdS_le (l : List UInt8) (p : Nat × Bool) (h : p.1 ≤ l.length) : (rdS l p).2.1 ≤ l.length := by
  obtain ⟨a, b⟩ := p
  cases b with
  | true => exact h
  | false =>
    simp only [rdS]
    rcases hD : decS (l.drop a) with _ | ⟨n, k⟩
    · simp
    · have := decS_len _ _ _ hD
      have h2 : (l.drop a).length = l.length - a := by simp
      simp only
      have : a ≤ l.length := h
      omega
theorem rdS_short (l : List UInt8) (p : Nat × Bool) : (rdS l p).1.length ≤ 65536 := by
  obtain ⟨a, b⟩ := p
  cases b with
  | true => simp [rdS]
  | false =>
    simp only [rdS]
    rcases hD : decS (l.drop a) with _ | ⟨n, k⟩
    · simp
    · exact (decS_take _ _ _ hD).2
theorem rdN_le (l : List UInt8) : ∀ j, (rdN l j).2.1 ≤ l.length
  | 0 => Nat.zero_le _
  | j + 1 => rdI_le l _ (rdN_le l j)
theorem rdL_le (l : List UInt8) (p : Nat × Bool) (h : p.1 ≤ l.length) : ∀ i, (rdL l p i).2.1 ≤ l.length
  | 0 => h
  | i + 1 => rdS_le l _ (rdL_le l p h i)
theorem rdL_len (l : List UInt8) (p : Nat × Bool) : ∀ i, (rdL l p i).1.length = i
  | 0 => rfl
  | i + 1 => by rw [rdL, List.length_append, rdL_len l p i]; rfl
theorem rdL_short (l : List UInt8) (p : Nat × Bool) : ∀ i, ∀ s ∈ (rdL l p i).1, s.length ≤ 65536
  | 0, s, hs => by cases hs
  | i + 1, s, hs => by
    rw [rdL] at hs
    rcases List.mem_append.1 hs with hs | hs
    · exact rdL_short l p i s hs
    · rw [List.mem_singleton] at hs; subst hs; exact rdS_short l _
theorem rdI_bad (l : List UInt8) (p : Nat × Bool) (h : p.2 = true) : rdI l p = (0, p) := by obtain ⟨a, b⟩ := p; cases h; rfl
theorem rdS_bad (l : List UInt8) (p : Nat × Bool) (h : p.2 = true) : rdS l p = ([], p) := by obtain ⟨a, b⟩ := p; cases h; rfl
theorem rdI_none (l : List UInt8) (a : Nat) (h : decI (l.drop a) = none) : rdI l (a, false) = (0, 0, true) := by simp only [rdI, h]
theorem rdI_some (l : List UInt8) (a : Nat) (n : Int) (k : Nat) (h : decI (l.drop a) = some (n, k)) : rdI l (a, false) = (n, a + k, false) := by simp only [rdI, h]
theorem rdS_none (l : List UInt8) (a : Nat) (h : decS (l.drop a) = none) : rdS l (a, false) = ([], 0, true) := by simp only [rdS, h]
theorem rdS_some (l : List UInt8) (a : Nat) (n : List UInt8) (k : Nat) (h : decS (l.drop a) = some (n, k)) : rdS l (a, false) = (n, a + k, false) := by simp only [rdS, h]
theorem decNs_none (k j : Nat) (f : Nat → Int) (r : List UInt8) (h : decI r = none) : decNs (k + 1) j f r = none := by rw [decNs, h]
theorem decNs_some (k j : Nat) (f : Nat → Int) (r : List UInt8) (n : Int) (c : Nat) (h : decI r = some (n, c)) : decNs (k + 1) j f r = decNs k (j + 1) (upd f j n) (r.drop c) := by rw [decNs, h]; rfl
/-- the numbers, read one by one -/
theorem rdN_spec (l : List UInt8) : ∀ j, j ≤ 6 →
    ((rdN l j).2.2 = true ∧ decNs 6 0 (fun _ => 0) l = none) ∨ ((rdN l j).2.2 = false ∧ decNs 6 0 (fun _ => 0) l = decNs (6 - j) j (rdN l j).1 (l.drop (rdN l j).2.1))
  | 0, _ => .inr ⟨rfl, rfl⟩
  | j + 1, h => by
    rcases rdN_spec l j (by omega) with ⟨h1, h2⟩ | ⟨h1, h2⟩
    · refine .inl ⟨?_, h2⟩
      rw [rdN, rdI_bad l _ h1]
      exact h1
    · revert h1 h2
      rcases hr : rdN l j with ⟨f, a, b⟩
      intro h1 h2
      simp only at h1 h2
      subst h1
      rw [rdN, hr]
      rcases hD : decI (l.drop a) with _ | ⟨n, k⟩
      · rw [rdI_none l a hD]
        exact .inl ⟨rfl, by rw [h2, show 6 - j = 6 - (j + 1) + 1 by omega, decNs_none _ _ _ _ hD]⟩
      · rw [rdI_some l a n k hD]
        refine .inr ⟨rfl, ?_⟩
        rw [h2, show 6 - j = 6 - (j + 1) + 1 by omega, decNs_some _ _ _ _ n k hD, List.drop_drop]
/-- the strings, read one by one -/
theorem rdL_spec (l : List UInt8) (a0 m : Nat) : ∀ i, i ≤ m → (∀ j, j < i → (rdL l (a0, false) j).2.2 = false) →
    ((rdL l (a0, false) i).2.2 = true ∧ decL m (l.drop a0) = none) ∨ ((rdL l (a0, false) i).2.2 = false ∧ decL m (l.drop a0) = match decL (m - i) (l.drop (rdL l (a0, false) i).2.1) with | none => none | some (t, r) => some ((rdL l (a0, false) i).1 ++ t, r))
  | 0, _, _ => .inr ⟨rfl, by
    show _ = match decL m (l.drop a0) with | none => none | some (t, r) => some ([] ++ t, r)
    cases decL m (l.drop a0) with
    | none => rfl
    | some x => rfl⟩
  | i + 1, h, hg => by
    rcases rdL_spec l a0 m i (by omega) (fun j hj => hg j (by omega)) with ⟨h1, _⟩ | ⟨h1, h2⟩
    · rw [hg i (by omega)] at h1; cases h1
    · revert h1 h2
      rcases hr : rdL l (a0, false) i with ⟨f, a, b⟩
      intro h1 h2
      simp only at h1 h2
      subst h1
      rw [show m - i = m - (i + 1) + 1 by omega, decL] at h2
      rw [rdL, hr]
      rcases hD : decS (l.drop a) with _ | ⟨n, k⟩
      · rw [hD] at h2
        rw [rdS_none l a hD]
        exact .inl ⟨rfl, h2⟩
      · rw [hD] at h2
        rw [rdS_some l a n k hD]
        refine .inr ⟨rfl, ?_⟩
        rw [h2]
        simp only [List.drop_drop]
        cases decL (m - (i + 1)) (l.drop (a + k)) with
        | none => rfl
        | some x => simp
theorem rdI_zero (l : List UInt8) (p : Nat × Bool) (h : (rdI l p).2.2 = true) : (rdI l p).1 = 0 := by
  obtain ⟨a, b⟩ := p
  cases b with
  | true => rfl
  | false =>
    simp only [rdI] at h ⊢
    rcases hD : decI (l.drop a) with _ | ⟨n, k⟩
    · rfl
    · rw [hD] at h; cases h
/-- the six numbers, the digest, the number of strings -/
def dF (l : List UInt8) : Nat → Int := (rdN l 6).1
def dP6 (l : List UInt8) : Nat × Bool := (rdN l 6).2
def dD (l : List UInt8) : List UInt8 := (rdS l (dP6 l)).1
def dP7 (l : List UInt8) : Nat × Bool := (rdS l (dP6 l)).2
def dN (l : List UInt8) : Int := (rdI l (dP7 l)).1
def dP8 (l : List UInt8) : Nat × Bool := (rdI l (dP7 l)).2
def dOver (l : List UInt8) : Bool := !(dP8 l).2 && decide (dN l < 0 ∨ 4000 < dN l)
/-- the reading of strings ends at i -/
def dStop (l : List UInt8) (i : Nat) : Prop := (i = 0 ∨ (i : Int) ≤ dN l) ∧ (∀ j, j < i → (rdL l (dP8 l) j).2.2 = false) ∧ (¬ (i : Int) < dN l ∨ (rdL l (dP8 l) i).2.2 = true)
theorem decM_over (K : Nat → Int) (l : List UInt8) (h : dOver l = true) : decM K l = .bad := by
  unfold dOver at h
  simp only [Bool.and_eq_true, Bool.not_eq_true', decide_eq_true_eq] at h
  obtain ⟨h8, hn⟩ := h
  unfold decM
  rcases rdN_spec l 6 (by omega) with ⟨h1, _⟩ | ⟨h1, h2⟩
  · rw [dP8, dP7, dP6] at h8
    rw [rdS_bad l _ h1, rdI_bad l _ h1, h1] at h8
    cases h8
  · revert h1 h2 h8 hn
    unfold dP8 dN dP7 dP6
    rcases hr : rdN l 6 with ⟨f, a, b⟩
    simp only
    intro h8 hn h1 h2
    subst h1
    rw [Nat.sub_self, decNs] at h2
    rw [h2]
    simp only
    rcases hD : decS (l.drop a) with _ | ⟨d, k⟩
    · rw [rdS_none l a hD] at h8
      rw [rdI_bad l _ rfl] at h8
      cases h8
    · rw [rdS_some l a d k hD] at h8 hn
      simp only at h8 hn ⊢
      rw [List.drop_drop]
      rcases hI : decI (l.drop (a + k)) with _ | ⟨m, c⟩
      · rw [rdI_none l _ hI] at h8; cases h8
      · rw [rdI_some l _ m c hI] at hn
        simp only at hn ⊢
        rw [if_pos hn]
theorem decM_stop (K : Nat → Int) (l : List UInt8) (h : dOver l = false) (i : Nat) (hi : dStop l i) :
    decM K l = if (rdL l (dP8 l) i).2.2 = true ∨ (rdL l (dP8 l) i).2.1 ≠ l.length then .wire else if msgB K (dF l) (dD l) (rdL l (dP8 l) i).1 = true then .msg (dF l) (dD l) (rdL l (dP8 l) i).1 else .bad := by
  obtain ⟨hi0, hg, hs⟩ := hi
  have bad8 : (dP8 l).2 = true → (rdL l (dP8 l) i).2.2 = true := fun hb => by
    rcases Nat.eq_zero_or_pos i with rfl | hp
    · exact hb
    · have := hg 0 hp
      rw [show (rdL l (dP8 l) 0).2 = dP8 l from rfl, hb] at this
      cases this
  unfold decM
  rcases rdN_spec l 6 (by omega) with ⟨h1, h2⟩ | ⟨h1, h2⟩
  · have hb : (dP8 l).2 = true := by
      unfold dP8 dP7 dP6
      rw [rdS_bad l _ h1, rdI_bad l _ h1, h1]
    rw [h2, if_pos (.inl (bad8 hb))]
  · rcases hr : rdN l 6 with ⟨f, a, b⟩
    rw [hr] at h1 h2
    simp only at h1 h2
    subst h1
    rw [Nat.sub_self, decNs] at h2
    rw [h2]
    have hF : dF l = f := by unfold dF; rw [hr]
    have hP6 : dP6 l = (a, false) := by unfold dP6; rw [hr]
    simp only
    rcases hD : decS (l.drop a) with _ | ⟨d, k⟩
    · have hb : (dP8 l).2 = true := by
        unfold dP8 dP7
        rw [hP6, rdS_none l a hD, rdI_bad l _ rfl]
      rw [if_pos (.inl (bad8 hb))]
    · have hP7 : dP7 l = (a + k, false) := by unfold dP7; rw [hP6, rdS_some l a d k hD]
      have hDd : dD l = d := by unfold dD; rw [hP6, rdS_some l a d k hD]
      simp only [List.drop_drop]
      rcases hI : decI (l.drop (a + k)) with _ | ⟨m, c⟩
      · have hb : (dP8 l).2 = true := by
          unfold dP8
          rw [hP7, rdI_none l _ hI]
        rw [if_pos (.inl (bad8 hb))]
      · have hP8 : dP8 l = (a + k + c, false) := by unfold dP8; rw [hP7, rdI_some l _ m c hI]
        have hN : dN l = m := by unfold dN; rw [hP7, rdI_some l _ m c hI]
        unfold dOver at h
        rw [hP8, hN] at h
        simp only [Bool.not_false, Bool.true_and, decide_eq_false_iff_not] at h
        rw [hN] at hi0 hs
        rw [hP8] at hg hs
        simp only
        rw [if_neg h, hP8, hF, hDd]
        rcases rdL_spec l (a + k + c) m.toNat i (by omega) hg with ⟨h3, h4⟩ | ⟨h3, h4⟩
        · rw [h4, if_pos (.inl h3)]
        · have hm : m.toNat - i = 0 := by
            rcases hs with hs | hs
            · omega
            · rw [h3] at hs; cases hs
          rw [hm, decL] at h4
          rw [h4]
          simp only [List.append_nil]
          have hlen := rdL_le l (a + k + c, false) (by
            have := rdI_le l (dP7 l) (rdS_le l _ (rdN_le l 6))
            have e : (rdI l (dP7 l)).2 = dP8 l := rfl
            rw [e, hP8] at this
            exact this) i
          have hdr : l.drop (rdL l (a + k + c, false) i).2.1 = [] ↔ (rdL l (a + k + c, false) i).2.1 = l.length := by
            rw [List.drop_eq_nil_iff]
            omega
          by_cases hx : (rdL l (a + k + c, false) i).2.1 = l.length
          · have hn : ¬ ((rdL l (a + k + c, false) i).2.2 = true ∨ (rdL l (a + k + c, false) i).2.1 ≠ l.length) := by
              rintro (g | g)
              · rw [h3] at g; cases g
              · exact g hx
            rw [if_neg (fun g => g (hdr.2 hx)), if_neg hn]
          · rw [if_pos (fun g => hx (hdr.1 g)), if_pos (.inr hx)]
end Go.Proofs.YtcbckcojebanaaaDoor.RW

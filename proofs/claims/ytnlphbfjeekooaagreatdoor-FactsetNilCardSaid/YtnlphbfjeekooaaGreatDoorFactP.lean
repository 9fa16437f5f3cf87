/-
  Plain laws on encodings: what is encoded is decoded, what is decoded was encoded, and more bytes are not accepted: no program in sight.
-/
import Derived.Test.YtnlphbfjeekooaaGreatDoorFact10
import Derived.Test.YtnlphbfjeekooaaGreatDoorMA
namespace Go.Proofs.YtnlphbfjeekooaaGreatDoor.RW
open Go Go.RowKit
/-- numbers of a fact, nothing beyond -/
def low (f : Nat → Int) (j i : Nat) : Int := if i < j then f i else 0
theorem upd_low (f : Nat → Int) (j : Nat) : upd (low f j) j (f j) = low f (j + 1) := by
  funext i
  unfold upd low
  by_cases h : i = j
  · subst h; simp
  · rw [if_neg h]
    by_cases h2 : i < j
    · rw [if_pos h2, if_pos (by omega)]
    · rw [if_neg h2, if_neg (by omega)]
theorem low_zero (f : Nat → Int) : low f 0 = zeroF := by funext i; simp [low, zeroF]
def encFrom (f : Nat → Int) : Nat → Nat → List UInt8
  | 0, _ => []
  | k + 1, j => putI (f j) ++ encFrom f k (j + 1)
theorem encTo_from (f : Nat → Int) (k : Nat) : ∀ j, encTo f (j + k) = encTo f j ++ encFrom f k j := by
  induction k with
  | zero => intro j; simp [encFrom]
  | succ k ih => intro j; rw [show j + (k + 1) = (j + 1) + k by omega, ih, encTo_succ, encFrom, List.append_assoc]
theorem decFrom_enc (f : Nat → Int) (hb : ∀ i, i < 17 → -4611686018427387903 ≤ f i ∧ f i ≤ 4611686018427387903) (k : Nat) : ∀ (j : Nat) (rest : List UInt8), j + k = 17 →
    decFrom k j (low f j) (encFrom f k j ++ rest) = some (low f 17, rest) := by
  induction k with
  | zero => intro j rest h; obtain rfl : j = 17 := (by omega); rfl
  | succ k ih =>
    intro j rest h
    have h1 := hb j (by omega)
    rw [encFrom, List.append_assoc, decFrom_some _ _ _ _ _ _ (decI_putI (f j) h1.1 h1.2 _), upd_low, List.drop_left]
    exact ih (j + 1) rest (by omega)
theorem decF_enc (f : Nat → Int) (s : List UInt8) (hb : ∀ i, i < 17 → -4611686018427387903 ≤ f i ∧ f i ≤ 4611686018427387903) (hs : s.length ≤ 65536) : decF (encL f s) = some (low f 17, s) := by
  have h := decFrom_enc f hb 17 0 (putS s) rfl
  rw [low_zero] at h
  have e : encL f s = encFrom f 17 0 ++ putS s := by
    unfold encL
    rw [show encTo f 17 = encTo f (0 + 17) from rfl, encTo_from]; rfl
  have h2 := decS_putS s [] hs
  rw [List.append_nil] at h2
  rw [e]
  exact decF_some _ _ _ _ _ h h2 (by omega)
theorem decFrom_take (k : Nat) : ∀ (j : Nat) (f g : Nat → Int) (l r : List UInt8), decFrom k j f l = some (g, r) → l = encFrom g k j ++ r ∧ (∀ i, i < j → g i = f i) := by
  induction k with
  | zero =>
    intro j f g l r h
    simp [decFrom] at h
    obtain ⟨rfl, rfl⟩ := h
    exact ⟨rfl, fun _ _ => rfl⟩
  | succ k ih =>
    intro j f g l r h
    rcases hI : decI l with _ | ⟨n, c⟩
    · rw [decFrom_none _ _ _ _ hI] at h; cases h
    · rw [decFrom_some _ _ _ _ _ _ hI] at h
      obtain ⟨h1, h2⟩ := ih _ _ _ _ _ h
      have hg : g j = n := by rw [h2 j (by omega)]; simp [upd]
      refine ⟨?_, fun i hi => ?_⟩
      · rw [encFrom, hg, List.append_assoc, ← h1, ← decI_take _ _ _ hI, List.take_append_drop]
      · rw [h2 i (by omega)]; unfold upd; rw [if_neg (by omega)]
theorem decF_take (l : List UInt8) (f : Nat → Int) (t : List UInt8) (h : decF l = some (f, t)) : l = encL f t ∧ t.length ≤ 65536 := by
  unfold decF at h
  rcases hd : decFrom 17 0 zeroF l with _ | ⟨g, r⟩
  · rw [hd] at h; cases h
  · rw [hd] at h
    simp only at h
    rcases hs : decS r with _ | ⟨u, c⟩
    · rw [hs] at h; cases h
    · rw [hs] at h
      simp only at h
      split at h
      · cases h
      · rename_i hc
        simp at h
        obtain ⟨rfl, rfl⟩ := h
        obtain ⟨h1, _⟩ := decFrom_take _ _ _ _ _ _ hd
        obtain ⟨h2, h3⟩ := decS_take _ _ _ hs
        refine ⟨?_, h3⟩
        rw [List.take_of_length_le (by omega)] at h2
        unfold encL
        rw [show encTo g 17 = encTo g (0 + 17) from rfl, encTo_from, ← h2]
        exact h1
theorem decFrom_append (k : Nat) : ∀ (j : Nat) (f g : Nat → Int) (l m r : List UInt8), decFrom k j f l = some (g, r) → decFrom k j f (l ++ m) = some (g, r ++ m) := by
  induction k with
  | zero => intro j f g l m r h; simp [decFrom] at h ⊢; exact ⟨h.1, by rw [h.2]⟩
  | succ k ih =>
    intro j f g l m r h
    rcases hI : decI l with _ | ⟨n, c⟩
    · rw [decFrom_none _ _ _ _ hI] at h; cases h
    · rw [decFrom_some _ _ _ _ _ _ hI] at h
      have hk := decI_le _ _ _ hI
      rw [decFrom_some _ _ _ _ _ _ (decI_append l m n c hI), List.drop_append_of_le_length (by omega)]
      exact ih _ _ _ _ _ _ h
/-- more bytes are not accepted -/
theorem decF_append (l m : List UInt8) (p : (Nat → Int) × List UInt8) (h : decF l = some p) (hm : m ≠ []) : decF (l ++ m) = none := by
  unfold decF at h
  rcases hd : decFrom 17 0 zeroF l with _ | ⟨g, r⟩
  · rw [hd] at h; cases h
  · rw [hd] at h
    simp only at h
    rcases hs : decS r with _ | ⟨u, c⟩
    · rw [hs] at h; cases h
    · rw [hs] at h
      simp only at h
      have hcl := decS_le _ _ _ hs
      exact decF_more _ _ _ _ _ (decFrom_append _ _ _ _ _ _ _ hd) (decS_append _ m _ _ hs) (by
        have : 0 < m.length := List.length_pos_iff.2 hm
        rw [List.length_append]; omega)
end Go.Proofs.YtnlphbfjeekooaaGreatDoor.RW

/-
  Journals, plain: what is read where one byte of the stored records is changed: no program in sight.
-/
import Derived.Test.YtllbphanfahkkaaGreatDoorJnV
namespace Go.Proofs.YtllbphanfahkkaaGreatDoor.RW
open Go Go.RowKit
/-- whether a byte is one of the length of a record -/
def siz : List ByteArray → Int → Bool
  | [], _ => false
  | r :: rs, t => if 1 ≤ t ∧ t ≤ ((putI (r.data.toList.length : Int)).length : Int) then true else siz rs (t - (1 + (putI (r.data.toList.length : Int)).length + r.data.toList.length + 32))
section
variable (H : List UInt8 → List UInt8)
/-- the strings of which the heads are reckoned -/
def hss : List UInt8 → List ByteArray → List (List UInt8)
  | _, [] => []
  | h, r :: rs => (2 :: (h ++ r.data.toList)) :: hss (chn H h r) rs
theorem hss_len : ∀ (l : List ByteArray) (h : List UInt8), (hss H h l).length = l.length
  | [], _ => rfl
  | r :: rs, h => by show (hss H (chn H h r) rs).length + 1 = _; rw [hss_len rs]; rfl
/-- two different strings with the same digest, at one place -/
def Coll (h : List UInt8) (was is : List ByteArray) : Prop := ∃ (i : Nat) (a b : List UInt8), (hss H h was)[i]? = some a ∧ (hss H h is)[i]? = some b ∧ a ≠ b ∧ H a = H b
variable {H}
theorem dam (hH : ∀ l, (H l).length = 32) : ∀ (was : List ByteArray) (h rest : List UInt8) (k : Nat) (c : UInt8), (∀ r ∈ was, r.size ≤ 65536) → k < (stos H h was).length → (stos H h was ++ rest)[k]? ≠ some c → siz was (k : Int) = false →
    ldL H h ((stos H h was ++ rest).set k c) = none ∨ (c = 0 ∧ ∃ j n, j < was.length ∧ ldL H h ((stos H h was ++ rest).set k c) = some (was.take j, n)) ∨ ∃ is n, ldL H h ((stos H h was ++ rest).set k c) = some (is, n) ∧ Coll H h was is
  | [], _, _, k, _, _, hk, _, _ => absurd hk (Nat.not_lt_zero k)
  | r :: rs, h, rest, k, c, hs, hk, hne, hz => by
    have hr : r.size ≤ 65536 := hs r (by simp)
    have hrl : r.data.toList.length = r.size := by rw [Array.length_toList]; rfl
    have hr' : (⟨r.data.toList.toArray⟩ : ByteArray) = r := by simp
    have hl32 : (chn H h r).length = 32 := hH _
    obtain ⟨P, hP⟩ : ∃ P, P = putI (r.data.toList.length : Int) := ⟨_, rfl⟩
    obtain ⟨D, hD⟩ : ∃ D, D = r.data.toList := ⟨_, rfl⟩
    obtain ⟨T, hT⟩ : ∃ T, T = stos H (chn H h r) rs ++ rest := ⟨_, rfl⟩
    have hps : putS D = P ++ D := by rw [hP, hD]; rfl
    have e1 : stos H h (r :: rs) ++ rest = 1 :: (P ++ (D ++ (chn H h r ++ T))) := by
      rw [hT]
      show sto H h r ++ stos H (chn H h r) rs ++ rest = _
      unfold sto
      rw [← hD, hps]
      simp [List.append_assoc]
    rw [e1] at hne ⊢
    unfold siz at hz
    rw [← hP] at hz
    rcases Nat.eq_zero_or_pos k with h0 | h0
    · subst h0
      rw [List.set_cons_zero]
      have hc1 : c ≠ 1 := fun e => hne (by rw [e]; rfl)
      by_cases hc0 : c = 0
      · subst hc0
        exact .inr (.inl ⟨rfl, 0, 0, by simp, by rw [ldL_zero]; rfl⟩)
      · exact .inl (ldL_bad H h _ hc0 hc1)
    · obtain ⟨k1, rfl⟩ : ∃ k1, k = k1 + 1 := ⟨k - 1, by omega⟩
      rw [List.set_cons_succ]
      rw [List.getElem?_cons_succ] at hne
      by_cases hp : k1 < P.length
      · rw [if_pos ⟨by omega, by omega⟩] at hz
        cases hz
      · rw [if_neg (by omega)] at hz
        rw [List.set_append_right _ _ (by omega)]
        rw [List.getElem?_append_right (by omega)] at hne
        have hDl : D.length = r.size := by rw [hD, hrl]
        by_cases hd : k1 - P.length < D.length
        · rw [List.set_append_left _ _ hd]
          rw [List.getElem?_append_left hd] at hne
          obtain ⟨D', hD'⟩ : ∃ D', D' = D.set (k1 - P.length) c := ⟨_, rfl⟩
          have hDl' : D'.length = D.length := by rw [hD', List.length_set]
          have hne' : D ≠ D' := fun e => hne (by rw [e, hD', List.getElem?_set_self hd])
          rw [← hD']
          have hps' : putS D' = P ++ D' := by unfold putS; rw [hDl', hP, hD]
          have e2 : P ++ (D' ++ (chn H h r ++ T)) = putS D' ++ (chn H h r ++ T) := by rw [hps', List.append_assoc]
          have hdec := decS_putS D' (chn H h r ++ T) (by rw [hDl', hDl]; exact hr)
          rw [e2]
          by_cases hh : chn H h r = chn H h ⟨D'.toArray⟩
          · rw [ldL_step H h _ _ _ hdec (by rw [List.drop_left, ← hh, ← hl32, List.take_left])]
            rcases hq : ldL H (chn H h ⟨D'.toArray⟩) ((putS D' ++ (chn H h r ++ T)).drop ((putS D').length + 32)) with _ | ⟨is, n⟩
            · exact .inl rfl
            · refine .inr (.inr ⟨_, _, rfl, 0, 2 :: (h ++ r.data.toList), 2 :: (h ++ D'), rfl, by simp [hss], ?_, ?_⟩)
              · intro e
                rw [List.cons.injEq] at e
                exact hne' (by rw [hD]; exact List.append_cancel_left e.2)
              · have := hh
                unfold chn at this
                simpa using this
          · exact .inl (ldL_head H h _ _ _ hdec (by rw [List.drop_left, ← hl32, List.take_left]; exact hh))
        · rw [List.set_append_right _ _ (by omega)]
          rw [List.getElem?_append_right (by omega)] at hne
          have hdec := fun X => decS_putS D X (by rw [hDl]; exact hr)
          by_cases hc : k1 - P.length - D.length < 32
          · rw [List.set_append_left _ _ (by omega)]
            rw [List.getElem?_append_left (by omega)] at hne
            have e2 : P ++ (D ++ ((chn H h r).set (k1 - P.length - D.length) c ++ T)) = putS D ++ ((chn H h r).set (k1 - P.length - D.length) c ++ T) := by rw [hps, List.append_assoc]
            rw [e2]
            have hl' : ((chn H h r).set (k1 - P.length - D.length) c).length = 32 := by rw [List.length_set, hl32]
            refine .inl (ldL_head H h _ _ _ (hdec _) ?_)
            rw [List.drop_left, ← hl', List.take_left]
            intro e
            have e3 : (chn H h r)[k1 - P.length - D.length]? = some c := by
              have h3 : ((chn H h r).set (k1 - P.length - D.length) c)[k1 - P.length - D.length]? = some c := List.getElem?_set_self (by omega)
              rw [e] at h3
              rw [← h3]
              rw [show (⟨D.toArray⟩ : ByteArray) = r by rw [hD, hr']]
            exact hne e3
          · rw [List.set_append_right _ _ (by omega), hl32]
            rw [List.getElem?_append_right (by omega), hl32] at hne
            have e2 : P ++ (D ++ (chn H h r ++ T.set (k1 - P.length - D.length - 32) c)) = putS D ++ (chn H h r ++ T.set (k1 - P.length - D.length - 32) c) := by rw [hps, List.append_assoc]
            rw [e2, ldL_step H h _ _ _ (hdec _) (by rw [List.drop_left, hD, hr', ← hl32, List.take_left])]
            have hdd : (putS D ++ (chn H h r ++ T.set (k1 - P.length - D.length - 32) c)).drop ((putS D).length + 32) = T.set (k1 - P.length - D.length - 32) c := by
              rw [← List.drop_drop, List.drop_left, ← hl32, List.drop_left]
            rw [hdd]
            have hrD : (⟨D.toArray⟩ : ByteArray) = r := by rw [hD, hr']
            rw [hrD]
            have hkk : k1 - P.length - D.length - 32 < (stos H (chn H h r) rs).length := by
              have h3 : (stos H h (r :: rs)).length = 33 + (putS D).length + (stos H (chn H h r) rs).length := by
                show (sto H h r ++ stos H (chn H h r) rs).length = _
                rw [List.length_append, sto_len H hH, ← hD]
              rw [h3, hps, List.length_append] at hk
              omega
            have hzz : siz rs ((k1 - P.length - D.length - 32 : Nat) : Int) = false := by
              rw [← hz]
              congr 1
              rw [← hD]
              omega
            have ih := dam hH rs (chn H h r) rest (k1 - P.length - D.length - 32) c (fun q hq => hs q (by simp [hq])) hkk (by rw [← hT]; exact hne) hzz
            rw [← hT] at ih
            rcases ih with h4 | ⟨h4, j, n, h5, h6⟩ | ⟨is, n, h4, i, a, b, h5, h6, h7, h8⟩
            · exact .inl (by rw [h4]; rfl)
            · exact .inr (.inl ⟨h4, j + 1, _, by simp; omega, by rw [h6]; rfl⟩)
            · exact .inr (.inr ⟨r :: is, _, by rw [h4]; rfl, i + 1, a, b, h5, h6, h7, h8⟩)
end
end Go.Proofs.YtllbphanfahkkaaGreatDoor.RW

/-
  Package fact: Decode: what it returns; only new memory is written.
-/
import Derived.Test.YtnlphbfjeekooaaGreatDoorFact9
namespace Go.Proofs.YtnlphbfjeekooaaGreatDoor
open Go.RowKit Go.Stop
namespace RW
def upd (f : Nat → Int) (j : Nat) (n : Int) (i : Nat) : Int := if i = j then n else f i
def decFrom : Nat → Nat → (Nat → Int) → List UInt8 → Option ((Nat → Int) × List UInt8)
  | 0, _, f, l => some (f, l)
  | k + 1, j, f, l => match decI l with
    | none => none
    | some (n, c) => decFrom k (j + 1) (upd f j n) (l.drop c)
theorem decFrom_none (k j : Nat) (f : Nat → Int) (l : List UInt8) (h : decI l = none) : decFrom (k + 1) j f l = none := by rw [decFrom, h]
theorem decFrom_some (k j : Nat) (f : Nat → Int) (l : List UInt8) (n : Int) (c : Nat) (h : decI l = some (n, c)) : decFrom (k + 1) j f l = decFrom k (j + 1) (upd f j n) (l.drop c) := by rw [decFrom, h]
/-- the numbers and the text of an encoding -/
def decF (l : List UInt8) : Option ((Nat → Int) × List UInt8) := match decFrom 17 0 zeroF l with
  | none => none
  | some (f, r) => match decS r with
    | none => none
    | some (t, c) => if c < r.length then none else some (f, t)
noncomputable def decV : Option ((Nat → Int) × List UInt8) → Value
  | none => .tuple #[.agg (fcells zeroF ⟨#[]⟩), .int .i64 10]
  | some (f, t) => match validB f t.length with
    | true => .tuple #[.agg (fcells f ⟨t.toArray⟩), .int .i64 0]
    | false => .tuple #[.agg (fcells zeroF ⟨#[]⟩), .int .i64 50]
theorem decS_le (l : List UInt8) (t : List UInt8) (c : Nat) (h : decS l = some (t, c)) : c ≤ l.length ∧ t.length ≤ l.length ∧ t.length ≤ 65536 := by
  rcases hI : decI l with _ | ⟨n, k⟩
  · rw [decS_none _ hI] at h; cases h
  · rw [decS_some _ _ _ hI] at h
    have hk := decI_le _ _ _ hI
    split at h
    · cases h
    · simp at h
      obtain ⟨h1, h2⟩ := h
      subst h1
      simp
      omega
theorem decF_none (l : List UInt8) (h : decFrom 17 0 zeroF l = none) : decF l = none := by unfold decF; rw [h]
theorem decF_bad (l : List UInt8) (f : Nat → Int) (r : List UInt8) (h : decFrom 17 0 zeroF l = some (f, r)) (hs : decS r = none) : decF l = none := by unfold decF; rw [h]; simp only [hs]
theorem decF_more (l : List UInt8) (f : Nat → Int) (r t : List UInt8) (c : Nat) (h : decFrom 17 0 zeroF l = some (f, r)) (hs : decS r = some (t, c)) (hc : c < r.length) : decF l = none := by unfold decF; rw [h]; simp only [hs, if_pos hc]
theorem decF_some (l : List UInt8) (f : Nat → Int) (r t : List UInt8) (c : Nat) (h : decFrom 17 0 zeroF l = some (f, r)) (hs : decS r = some (t, c)) (hc : ¬ c < r.length) : decF l = some (f, t) := by unfold decF; rw [h]; simp only [hs, if_neg hc]
theorem decV_yes (f : Nat → Int) (t : List UInt8) (h : validB f t.length = true) : decV (some (f, t)) = .tuple #[.agg (fcells f ⟨t.toArray⟩), .int .i64 0] := by unfold decV; simp only [h]
theorem decV_no (f : Nat → Int) (t : List UInt8) (h : validB f t.length = false) : decV (some (f, t)) = .tuple #[.agg (fcells zeroF ⟨#[]⟩), .int .i64 50] := by unfold decV; simp only [h]
theorem fcells_upd (f : Nat → Int) (s : ByteArray) (j : Nat) (n : Int) (h : j < 17) : (fcells f s).setIfInBounds j (.int .i64 n) = fcells (upd f j n) s := by
  apply fcells_ext
  · simp [fcells_size]
  · intro i hi
    rw [Array.getElem?_setIfInBounds]
    unfold upd
    by_cases e : j = i
    · subst e; rw [if_pos rfl, if_pos rfl, if_pos (by rw [fcells_size]; omega)]
    · rw [if_neg e, if_neg (Ne.symm e), fcells_get _ _ _ hi]
  · rw [Array.getElem?_setIfInBounds, if_neg (by omega), fcells_text]
theorem fcells_settext (f : Nat → Int) (s u : ByteArray) : (fcells f s).setIfInBounds 17 (.string u) = fcells f u := by
  apply fcells_ext
  · simp [fcells_size]
  · intro i hi; rw [Array.getElem?_setIfInBounds, if_neg (by omega), fcells_get _ _ _ hi]
  · rw [Array.getElem?_setIfInBounds, if_pos rfl, if_pos (by rw [fcells_size]; decide)]
end RW
attribute [local go_sem ↓] ldRow_fact
end Go.Proofs.YtnlphbfjeekooaaGreatDoor

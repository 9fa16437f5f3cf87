/-
  Which writes survive, as the law reckons it: plain Lean, no condition beyond each theorem's own premises.
-/
import Derived.Test.YtllbphanfahkkaaGreatDoorDk14P
namespace Go.Proofs.YtllbphanfahkkaaGreatDoor.RW
/-- the numbers below j that are kept, ascending -/
def ascK (kp : Nat → Bool) : Nat → List Int
  | 0 => []
  | j + 1 => if kp j then ascK kp j ++ [(j : Int)] else ascK kp j
/-- .. as the law puts them together: the last one first -/
def numK (kp : Nat → Bool) : Nat → List Int
  | 0 => []
  | j + 1 => if kp j then (j : Int) :: numK kp j else numK kp j
/-- the last number below j that is kept, or -1 -/
def lastK (kp : Nat → Bool) : Nat → Int
  | 0 => -1
  | j + 1 => if kp j then (j : Int) else lastK kp j
theorem numK_rev (kp : Nat → Bool) : ∀ j, numK kp j = (ascK kp j).reverse
  | 0 => rfl
  | j + 1 => by
    rw [numK, ascK]
    cases kp j
    · exact numK_rev kp j
    · rw [if_pos rfl, if_pos rfl, List.reverse_append, numK_rev kp j]; rfl
theorem ascK_in (kp : Nat → Bool) : ∀ j, ∀ x ∈ ascK kp j, 0 ≤ x ∧ x < j
  | 0, x, h => by cases h
  | j + 1, x, h => by
    rw [ascK] at h
    cases hk : kp j
    · rw [hk, if_neg Bool.false_ne_true] at h
      have := ascK_in kp j x h
      omega
    · rw [hk, if_pos rfl] at h
      rcases List.mem_append.1 h with h | h
      · have := ascK_in kp j x h
        omega
      · simp at h
        omega
theorem ascK_asc (kp : Nat → Bool) : ∀ j, (ascK kp j).Pairwise (· < ·)
  | 0 => List.Pairwise.nil
  | j + 1 => by
    rw [ascK]
    cases kp j
    · exact ascK_asc kp j
    · rw [if_pos rfl, List.pairwise_append]
      refine ⟨ascK_asc kp j, List.pairwise_singleton _ _, fun x hx y hy => ?_⟩
      have := ascK_in kp j x hx
      simp at hy
      omega
theorem ascK_le (kp : Nat → Bool) (j : Nat) : ∀ d, (ascK kp j).length ≤ (ascK kp (j + d)).length
  | 0 => Nat.le_refl _
  | d + 1 => by
    refine Nat.le_trans (ascK_le kp j d) ?_
    rw [← Nat.add_assoc, ascK]
    split <;> simp
theorem ascK_len (kp : Nat → Bool) : ∀ j, (ascK kp j).length ≤ j
  | 0 => Nat.le_refl _
  | j + 1 => by
    have := ascK_len kp j
    rw [ascK]
    split
    · simp; omega
    · omega
theorem numK_len (kp : Nat → Bool) (j : Nat) : (numK kp j).length ≤ j := by
  rw [numK_rev, List.length_reverse]
  exact ascK_len kp j
theorem lastK_lt (kp : Nat → Bool) : ∀ j, lastK kp j < j
  | 0 => by simp [lastK]
  | j + 1 => by
    have := lastK_lt kp j
    rw [lastK]
    split <;> omega
/-- a kept number is the last survivor exactly if it is the last one kept -/
theorem lastK_iff (kp : Nat → Bool) (j : Nat) (hj : kp j = true) : ∀ d, ((ascK kp j).length + 1 = (ascK kp (j + 1 + d)).length ↔ (j : Int) = lastK kp (j + 1 + d))
  | 0 => by
    rw [Nat.add_zero, ascK, lastK, if_pos hj, if_pos hj]
    simp
  | d + 1 => by
    have ih := lastK_iff kp j hj d
    have hm := ascK_le kp (j + 1) d
    have hs : (ascK kp (j + 1)).length = (ascK kp j).length + 1 := by rw [ascK, if_pos hj]; simp
    rw [← Nat.add_assoc, ascK, lastK]
    cases kp (j + 1 + d)
    · exact ih
    · rw [if_pos rfl, if_pos rfl, List.length_append, List.length_singleton]
      constructor
      · intro h; omega
      · intro h; omega
theorem crFold_snoc (pend : List (Nat × ByteArray)) (torn : Int) (N : Nat) (i : Int) : ∀ (a : List Int) (m : Nat) (d : List UInt8), crFold pend torn N m (a ++ [i]) d = crStep pend torn N (m + a.length) i (crFold pend torn N m a d)
  | [], m, d => rfl
  | x :: a, m, d => by
    rw [List.cons_append, crFold, crFold, crFold_snoc pend torn N i a (m + 1), List.length_cons, show m + 1 + a.length = m + (a.length + 1) by omega]
/-- the content as the law reckons it -/
def wantK (pend : List (Nat × ByteArray)) (torn : Int) (kp : Nat → Bool) (last : Int) (D : List UInt8) : Nat → List UInt8
  | 0 => D
  | j + 1 => if kp j then match pend[j]? with
    | some x => lay (wantK pend torn kp last D j) x.1 (if (j : Int) = last ∧ 0 ≤ torn then tear torn x.2 else x.2).data.toList
    | none => wantK pend torn kp last D j
    else wantK pend torn kp last D j
theorem wantK_len (pend : List (Nat × ByteArray)) (torn : Int) (kp : Nat → Bool) (last : Int) (D : List UInt8) (hok : ∀ x ∈ pend, x.1 + x.2.size ≤ D.length) : ∀ j, (wantK pend torn kp last D j).length = D.length
  | 0 => rfl
  | j + 1 => by
    have ih := wantK_len pend torn kp last D hok j
    rw [wantK]
    split
    · split
      · rename_i x hx
        have h1 := hok x (List.mem_of_getElem? hx)
        rw [lay_len]
        · exact ih
        · rw [ih]
          have h2 := tear_size torn x.2
          split
          · rw [Array.length_toList]; show x.1 + (tear torn x.2).size ≤ _; omega
          · rw [Array.length_toList]; exact h1
      · exact ih
    · exact ih
theorem want_fold (pend : List (Nat × ByteArray)) (torn : Int) (kp : Nat → Bool) (M : Nat) (D : List UInt8) : ∀ j, j ≤ M → crFold pend torn (ascK kp M).length 0 (ascK kp j) D = wantK pend torn kp (lastK kp M) D j
  | 0, _ => rfl
  | j + 1, h => by
    have ih := want_fold pend torn kp M D j (by omega)
    rw [wantK, ascK]
    cases hk : kp j
    · exact ih
    · rw [if_pos rfl, if_pos rfl, crFold_snoc, ih, Nat.zero_add, crStep, Int.toNat_natCast]
      obtain ⟨d, hd⟩ : ∃ d, M = j + 1 + d := ⟨M - (j + 1), by omega⟩
      have hi := lastK_iff kp j hk d
      rw [← hd] at hi
      cases pend[j]? with
      | none => rfl
      | some x =>
        show lay _ (torn1 torn (ascK kp M).length (ascK kp j).length x).1 (torn1 torn (ascK kp M).length (ascK kp j).length x).2.data.toList = lay (wantK pend torn kp (lastK kp M) D j) x.1 (if (j : Int) = lastK kp M ∧ 0 ≤ torn then tear torn x.2 else x.2).data.toList
        rw [torn1]
        by_cases hc : (j : Int) = lastK kp M ∧ 0 ≤ torn
        · rw [if_pos ⟨hi.2 hc.1, hc.2⟩, if_pos hc]
        · rw [if_neg (fun h => hc ⟨hi.1 h.1, h.2⟩), if_neg hc]
theorem crash_kept (S : Dk) (torn : Int) (kp : Nat → Bool) (M : Nat) (hM : S.pend.length = M) : S.crash (numK kp M) torn = ⟨false, 0, wantK S.pend torn kp (lastK kp M) S.dur M, wantK S.pend torn kp (lastK kp M) S.dur M, []⟩ := by
  have hs : survive S.pend.length (numK kp M) = ascK kp M := survive_asc (by rw [numK_rev]; exact List.reverse_perm _) (ascK_asc kp M) (by rw [hM]; exact ascK_in kp M)
  rw [Dk.crash, hs]
  simp only [want_fold S.pend torn kp M S.dur M (Nat.le_refl _)]
/-- a write that is added behind changes nothing that was reckoned before -/
theorem wantK_snoc (pend : List (Nat × ByteArray)) (y : Nat × ByteArray) (torn : Int) (kp : Nat → Bool) (last : Int) (D : List UInt8) : ∀ j, j ≤ pend.length → wantK (pend ++ [y]) torn kp last D j = wantK pend torn kp last D j
  | 0, _ => rfl
  | j + 1, h => by
    rw [wantK, wantK, wantK_snoc pend y torn kp last D j (by omega), List.getElem?_append_left (by omega)]
theorem wantK_kept {pend : List (Nat × ByteArray)} {y : Nat × ByteArray} {torn : Int} {kp : Nat → Bool} {last : Int} {D : List UInt8} {j : Nat} (hj : pend.length = j) (hk : kp j = true) : wantK (pend ++ [y]) torn kp last D (j + 1) = lay (wantK pend torn kp last D j) y.1 (if (j : Int) = last ∧ 0 ≤ torn then tear torn y.2 else y.2).data.toList := by
  subst hj
  rw [wantK, if_pos hk, List.getElem?_append_right (Nat.le_refl _), Nat.sub_self, wantK_snoc _ _ _ _ _ _ _ (Nat.le_refl _)]
  rfl
theorem wantK_left {pend : List (Nat × ByteArray)} {y : Nat × ByteArray} {torn : Int} {kp : Nat → Bool} {last : Int} {D : List UInt8} {j : Nat} (hj : pend.length = j) (hk : kp j = false) : wantK (pend ++ [y]) torn kp last D (j + 1) = wantK pend torn kp last D j := by
  subst hj
  rw [wantK, hk, if_neg Bool.false_ne_true, wantK_snoc _ _ _ _ _ _ _ (Nat.le_refl _)]
/-- the digits that the law lays down first -/
def digit (i : Nat) : UInt8 := UInt8.ofNat (48 + i % 10)
def digitsL (n j : Nat) : List UInt8 := (List.range n).map fun i => if i < j then digit i else 0
theorem digits_zero (n : Nat) : digitsL n 0 = List.replicate n 0 := by
  apply List.ext_getElem
  · simp [digitsL]
  · intro i h1 h2
    simp [digitsL]
theorem digits_len (n j : Nat) : (digitsL n j).length = n := by simp [digitsL]
theorem digits_set (n j : Nat) (h : j < n) : (digitsL n j).set j (digit j) = digitsL n (j + 1) := by
  apply List.ext_getElem
  · simp [digitsL]
  · intro i h1 h2
    simp only [digitsL, List.getElem_set, List.getElem_map, List.getElem_range]
    by_cases he : j = i
    · rw [if_pos he, if_pos (by omega), he]
    · rw [if_neg he]
      by_cases h3 : i < j
      · rw [if_pos h3, if_pos (by omega)]
      · rw [if_neg h3, if_neg (by omega)]
theorem digit_nat (i : Nat) : ((digit i).toNat : Int) = 48 + (i : Int) % 10 := by
  have h : (48 + i % 10) % 256 = 48 + i % 10 := Nat.mod_eq_of_lt (by omega)
  have h2 : (digit i).toNat = 48 + i % 10 := by rw [digit, UInt8.toNat_ofNat']; exact h
  omega
theorem lay_full (D s : List UInt8) (h : s.length = D.length) : lay D 0 s = s := by
  simp [lay, Go.splice, h]
end Go.Proofs.YtllbphanfahkkaaGreatDoor.RW

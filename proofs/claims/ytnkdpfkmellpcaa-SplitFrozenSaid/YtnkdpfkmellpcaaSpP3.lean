/-
  A holder's part when only some of the others claim: plain Lean, no condition beyond each theorem's own premises.
-/
import Derived.Test.YtnkdpfkmellpcaaSpP2
namespace Go.Proofs.Ytnkdpfkmellpcaa.RW
/-- holders 10, 11, .. with shares a -/
def allL (a : Nat → Int) : Nat → List Pt
  | 0 => []
  | m + 1 => allL a m ++ [(10 + (m : Int), a m)]
/-- of these, i and those that are chosen -/
def selL (a : Nat → Int) (i : Nat) (q : Nat → Bool) : Nat → List Pt
  | 0 => []
  | m + 1 => selL a i q m ++ if (decide (m = i) || q m) then [(10 + (m : Int), a m)] else []
/-- the others' shares -/
def othS (a : Nat → Int) (i : Nat) : Nat → Int
  | 0 => 0
  | m + 1 => othS a i m + if m = i then 0 else a m
theorem asc_snoc {l : List Pt} {x : Pt} (h : Asc l) (hx : ∀ y ∈ l, y.1 < x.1) : Asc (l ++ [x]) := by
  unfold Asc at *
  rw [List.pairwise_append]
  exact ⟨h, by simp, fun y hy z hz => by rw [List.mem_singleton] at hz; subst hz; exact hx y hy⟩
theorem getP_append (h : Int) : ∀ l m : List Pt, getP h (l ++ m) = match getP h l with | some s => some s | none => getP h m
  | [], m => rfl
  | x :: l, m => by
    rw [List.cons_append, getP, getP]
    split
    · rfl
    · exact getP_append h l m
theorem allL_len (a : Nat → Int) : ∀ m, (allL a m).length = m
  | 0 => rfl
  | m + 1 => by rw [allL, List.length_append, allL_len a m]; rfl
theorem allL_get (a : Nat → Int) : ∀ m i, i < m → (allL a m)[i]? = some (10 + (i : Int), a i)
  | 0, i, h => by omega
  | m + 1, i, h => by
    rw [allL]
    rcases Nat.lt_or_ge i m with hlt | hge
    · rw [List.getElem?_append_left (by rw [allL_len]; exact hlt)]
      exact allL_get a m i hlt
    · obtain rfl : i = m := by omega
      rw [List.getElem?_append_right (by rw [allL_len]; exact Nat.le_refl _), allL_len]
      simp
section
variable {a : Nat → Int} (ha : ∀ k, 1 ≤ a k ∧ a k ≤ 1000000)
include ha
theorem allL_spec : ∀ m, Asc (allL a m) ∧ Sound (allL a m) ∧ (∀ x ∈ allL a m, x.1 < 10 + (m : Int)) ∧ (allL a m).length = m ∧ ∀ i, i < m → getP (10 + (i : Int)) (allL a m) = some (a i)
  | 0 => ⟨List.Pairwise.nil, by simp [Sound, allL], by simp [allL], rfl, fun i hi => by omega⟩
  | m + 1 => by
    obtain ⟨h1, h2, h3, h4, h5⟩ := allL_spec m
    rw [allL]
    refine ⟨asc_snoc h1 h3, ?_, ?_, by simp [h4], ?_⟩
    · intro x hx
      rcases List.mem_append.1 hx with hx | hx
      · exact h2 x hx
      · rw [List.mem_singleton] at hx; subst hx; exact ha m
    · intro x hx
      rcases List.mem_append.1 hx with hx | hx
      · have := h3 x hx; omega
      · rw [List.mem_singleton] at hx; subst hx; simp only; omega
    · intro i hi
      rw [getP_append]
      rcases Nat.lt_or_ge i m with hlt | hge
      · rw [h5 i hlt]
      · obtain rfl : i = m := by omega
        rw [getP_none_of fun y hy => by have := h3 y hy; omega]
        simp [getP]
theorem selL_spec (i : Nat) (q : Nat → Bool) : ∀ m, Asc (selL a i q m) ∧ Sound (selL a i q m) ∧ (∀ x ∈ selL a i q m, x.1 < 10 + (m : Int)) ∧ (selL a i q m).length ≤ m ∧ (i < m → getP (10 + (i : Int)) (selL a i q m) = some (a i)) ∧ tot (selL a i q m) ≤ tot (allL a m)
  | 0 => ⟨List.Pairwise.nil, by simp [Sound, selL], by simp [selL], Nat.le_refl _, fun hi => by omega, Int.le_refl _⟩
  | m + 1 => by
    obtain ⟨h1, h2, h3, h4, h5, h6⟩ := selL_spec i q m
    have hm := ha m
    rw [selL, allL, tot_append, tot_append]
    by_cases hc : (decide (m = i) || q m) = true
    · rw [if_pos hc]
      refine ⟨asc_snoc h1 h3, ?_, ?_, by simp; omega, ?_, by simp [tot]; omega⟩
      · intro x hx
        rcases List.mem_append.1 hx with hx | hx
        · exact h2 x hx
        · rw [List.mem_singleton] at hx; subst hx; exact hm
      · intro x hx
        rcases List.mem_append.1 hx with hx | hx
        · have := h3 x hx; omega
        · rw [List.mem_singleton] at hx; subst hx; simp only; omega
      · intro hi
        rw [getP_append]
        rcases Nat.lt_or_ge i m with hlt | hge
        · rw [h5 hlt]
        · obtain rfl : i = m := by omega
          rw [getP_none_of fun y hy => by have := h3 y hy; omega]
          simp [getP]
    · rw [if_neg hc]
      rw [Bool.or_eq_true, decide_eq_true_eq] at hc
      refine ⟨by rw [List.append_nil]; exact h1, by rw [List.append_nil]; exact h2, ?_, by simp; omega, ?_, by simp [tot]; omega⟩
      · rw [List.append_nil]
        intro x hx
        have := h3 x hx
        omega
      · intro hi
        rw [List.append_nil]
        exact h5 (by
          rcases Nat.lt_or_ge i m with h | h
          · exact h
          · exact absurd (.inl (by omega)) hc)
theorem oth_spec (i : Nat) : ∀ m, tot (allL a m) = othS a i m + (if i < m then a i else 0) ∧ 0 ≤ othS a i m ∧ othS a i m ≤ 1000000 * m
  | 0 => by simp [allL, tot, othS]
  | m + 1 => by
    obtain ⟨h1, h2, h3⟩ := oth_spec i m
    have hm := ha m
    rw [allL, tot_append, othS]
    have : tot [(10 + (m : Int), a m)] = a m := by simp [tot]
    rw [this, h1]
    by_cases e : m = i
    · subst e
      rw [if_pos rfl, if_neg (by omega), if_pos (by omega)]
      refine ⟨by omega, by omega, by omega⟩
    · rw [if_neg e]
      by_cases hi : i < m
      · rw [if_pos hi, if_pos (by omega)]
        refine ⟨by omega, by omega, by omega⟩
      · rw [if_neg hi, if_neg (by omega)]
        refine ⟨by omega, by omega, by omega⟩
/-- the part of i -/
theorem frozen (i : Nat) (q : Nat → Bool) (m : Nat) (hi : i < m) :
    shareOf (10 + (i : Int)) (resolve (allL a m)).1 = max 0 (min (a i) (1000000 - othS a i m)) ∧ shareOf (10 + (i : Int)) (resolve (allL a m)).1 ≤ shareOf (10 + (i : Int)) (resolve (selL a i q m)).1 := by
  obtain ⟨a1, a2, _, _, a5⟩ := allL_spec ha m
  obtain ⟨s1, s2, _, _, s5, s6⟩ := selL_spec ha i q m
  obtain ⟨o1, o2, _⟩ := oth_spec ha i m
  rw [if_pos hi] at o1
  obtain ⟨r1, r2, _⟩ := resolve_get a1 a2
  obtain ⟨t1, t2, _⟩ := resolve_get s1 s2
  have hai := ha i
  rw [shareOf_get r1, shareOf_get t1, r2, t2, a5 i hi, s5 hi, Option.bind_some, Option.bind_some]
  have h1 : ovr (allL a m) = max (tot (allL a m) - 1000000) 0 := rfl
  have h2 : ovr (selL a i q m) = max (tot (selL a i q m) - 1000000) 0 := rfl
  constructor
  · split
    · rw [Option.getD_some]; omega
    · rw [Option.getD_none]; omega
  · split
    · rw [if_pos (by omega), Option.getD_some, Option.getD_some]; omega
    · rw [Option.getD_none]
      split
      · rw [Option.getD_some]; omega
      · exact Int.le_refl _
end
end Go.Proofs.Ytnkdpfkmellpcaa.RW

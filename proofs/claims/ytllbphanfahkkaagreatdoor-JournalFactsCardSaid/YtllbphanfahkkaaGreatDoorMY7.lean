/-
  Survivors of a crash, as the reference finds them: plain Lean, no condition beyond each theorem's own premises.
-/
import Derived.Test.YtllbphanfahkkaaGreatDoorMQ4
import Derived.Test.YtllbphanfahkkaaGreatDoorMQ0
namespace Go.Proofs.YtllbphanfahkkaaGreatDoor.RW
theorem compact_sorted (l : List Int) (hl : l.Pairwise (· ≤ ·)) : ∀ m, m ≤ l.length → (Lib.compactUpTo l.toArray m).Pairwise (· < ·) ∧ (∀ x ∈ Lib.compactUpTo l.toArray m, ∃ j, ∃ h : j < l.length, j < m ∧ x = l[j]) ∧ (∀ j, ∀ h : j < l.length, j < m → l[j] ∈ Lib.compactUpTo l.toArray m)
  | 0, _ => ⟨List.Pairwise.nil, fun x hx => by simp [Lib.compactUpTo] at hx, fun j _ h => absurd h (by omega)⟩
  | m + 1, hm => by
    obtain ⟨h1, h2, h3⟩ := compact_sorted l hl m (by omega)
    have hml : m < l.length := by omega
    have hle : ∀ i j, ∀ hi : i < l.length, ∀ hj : j < l.length, i ≤ j → l[i] ≤ l[j] := fun i j hi hj hij => by
      rcases Nat.lt_or_eq_of_le hij with h | h
      · exact List.pairwise_iff_getElem.1 hl i j hi hj h
      · subst h; exact Int.le_refl _
    have hg : ∀ j, ∀ h : j < l.length, l.toArray[j]! = l[j] := fun j h => by
      rw [getElem!_pos l.toArray j (by simpa using h)]
      simp
    rw [Lib.compactUpTo_succ]
    cases hk : Lib.keeps l.toArray m
    · have hne : ¬ (m = 0 ∨ l.toArray[m]! ≠ l.toArray[m - 1]!) := by
        have := hk
        unfold Lib.keeps at this
        exact of_decide_eq_false this
      have hm0 : m ≠ 0 := fun h => hne (.inl h)
      have heq : l[m] = l[m - 1] := by
        have := Decidable.not_not.1 fun h => hne (.inr h)
        rw [hg m hml, hg (m - 1) (by omega)] at this
        exact this
      rw [if_neg Bool.false_ne_true, List.append_nil]
      refine ⟨h1, fun x hx => ?_, fun j h hj => ?_⟩
      · obtain ⟨j, hj, hjm, e⟩ := h2 x hx
        exact ⟨j, hj, by omega, e⟩
      · rcases Nat.lt_or_eq_of_le (Nat.le_of_lt_succ hj) with h' | h'
        · exact h3 j h h'
        · subst h'
          rw [heq]
          exact h3 (j - 1) (by omega) (by omega)
    · have hkk : m = 0 ∨ l.toArray[m]! ≠ l.toArray[m - 1]! := by
        have := hk
        unfold Lib.keeps at this
        exact of_decide_eq_true this
      rw [if_pos rfl, hg m hml]
      refine ⟨?_, fun x hx => ?_, fun j h hj => ?_⟩
      · rw [List.pairwise_append]
        refine ⟨h1, List.pairwise_singleton _ _, fun x hx y hy => ?_⟩
        rw [List.mem_singleton] at hy
        subst hy
        obtain ⟨j, hj, hjm, e⟩ := h2 x hx
        subst e
        have h4 := hkk.resolve_left (by omega)
        rw [hg m hml, hg (m - 1) (by omega)] at h4
        have h5 := hle j (m - 1) hj (by omega) (by omega)
        have h6 := hle (m - 1) m (by omega) hml (by omega)
        omega
      · rcases List.mem_append.1 hx with hx | hx
        · obtain ⟨j, hj, hjm, e⟩ := h2 x hx
          exact ⟨j, hj, by omega, e⟩
        · rw [List.mem_singleton] at hx
          exact ⟨m, hml, by omega, hx⟩
      · rcases Nat.lt_or_eq_of_le (Nat.le_of_lt_succ hj) with h' | h'
        · exact List.mem_append_left _ (h3 j h h')
        · subst h'
          exact List.mem_append_right _ (List.mem_singleton.2 rfl)
theorem ascK_mem (kp : Nat → Bool) : ∀ j x, x ∈ ascK kp j ↔ (0 ≤ x ∧ x < j) ∧ kp x.toNat = true
  | 0, x => by simp [ascK]; omega
  | j + 1, x => by
    have ih := ascK_mem kp j x
    rw [ascK]
    cases hk : kp j
    · rw [if_neg Bool.false_ne_true, ih]
      constructor
      · rintro ⟨h1, h2⟩; exact ⟨by omega, h2⟩
      · rintro ⟨h1, h2⟩
        refine ⟨?_, h2⟩
        by_cases hx : x = j
        · subst hx; rw [Int.toNat_natCast, hk] at h2; cases h2
        · omega
    · rw [if_pos rfl, List.mem_append, ih, List.mem_singleton]
      constructor
      · rintro (⟨h1, h2⟩ | h)
        · exact ⟨by omega, h2⟩
        · subst h; exact ⟨by omega, by rw [Int.toNat_natCast]; exact hk⟩
      · rintro ⟨h1, h2⟩
        by_cases hx : x = j
        · exact .inr hx
        · exact .inl ⟨by omega, h2⟩
/-- the survivors are the numbers that the reference finds -/
theorem survive_eq (k : Nat) (keep : List Int) : survive k keep = ascK (fun j => keep.contains (j : Int)) k := by
  have hle := List.pairwise_mergeSort (le := fun x y : Int => decide (x ≤ y)) (by intro a b c h1 h2; simp at *; omega) (by intro a b; simp; omega) keep
  have hle' : (keep.mergeSort fun x y => decide (x ≤ y)).Pairwise (· ≤ ·) := hle.imp (by intro a b h; simpa using h)
  obtain ⟨h1, h2, h3⟩ := compact_sorted _ hle' _ (Nat.le_refl _)
  have hm : ∀ x, x ∈ Lib.compact (keep.mergeSort fun x y => decide (x ≤ y)) ↔ x ∈ keep := fun x => by
    rw [← (List.mergeSort_perm keep (fun x y => decide (x ≤ y))).mem_iff]
    constructor
    · intro h
      obtain ⟨j, hj, _, e⟩ := h2 x h
      rw [e]; exact List.getElem_mem hj
    · intro h
      obtain ⟨j, hj, e⟩ := List.mem_iff_getElem.1 h
      rw [← e]; exact h3 j hj hj
  refine asc_mem_ext (List.Pairwise.filter _ h1) (ascK_asc _ k) fun x => ?_
  rw [ascK_mem]
  show x ∈ (Lib.compact _).filter _ ↔ _
  rw [List.mem_filter, hm]
  simp only [outB, Bool.not_or, Bool.and_eq_true, Bool.not_eq_true', decide_eq_false_iff_not]
  constructor
  · rintro ⟨h1, h2, h3⟩
    refine ⟨by omega, List.contains_iff_mem.2 ?_⟩
    rw [Int.toNat_of_nonneg (by omega)]
    exact h1
  · rintro ⟨h1, h2⟩
    have := List.contains_iff_mem.1 h2
    rw [Int.toNat_of_nonneg h1.1] at this
    exact ⟨this, by omega, by omega⟩
/-- the writes that are kept, of the first j -/
def keptL (pend : List (Nat × ByteArray)) (kp : Nat → Bool) (j : Nat) : List (Nat × ByteArray) := (ascK kp j).filterMap fun i => pend[i.toNat]?
theorem kept_zero (pend : List (Nat × ByteArray)) (kp : Nat → Bool) : keptL pend kp 0 = [] := rfl
theorem kept_yes {pend : List (Nat × ByteArray)} {kp : Nat → Bool} {j : Nat} {x : Nat × ByteArray} (hx : pend[j]? = some x) (hk : kp j = true) : keptL pend kp (j + 1) = keptL pend kp j ++ [x] := by
  rw [keptL, ascK, hk, if_pos rfl, List.filterMap_append]
  congr 1
  simp [hx]
theorem kept_no {pend : List (Nat × ByteArray)} {kp : Nat → Bool} {j : Nat} (hk : kp j = false) : keptL pend kp (j + 1) = keptL pend kp j := by
  rw [keptL, ascK, hk, if_neg Bool.false_ne_true]; rfl
theorem filterMap_len (pend : List (Nat × ByteArray)) : ∀ l : List Int, (∀ i ∈ l, 0 ≤ i ∧ i < pend.length) → (l.filterMap fun i => pend[i.toNat]?).length = l.length
  | [], _ => rfl
  | i :: l, h => by
    have hi := h i (List.mem_cons_self ..)
    rw [List.filterMap_cons, List.getElem?_eq_getElem (by omega)]
    simp only [List.length_cons, filterMap_len pend l fun y hy => h y (List.mem_cons_of_mem _ hy)]
theorem kept_len {pend : List (Nat × ByteArray)} {kp : Nat → Bool} {j : Nat} (h : j ≤ pend.length) : (keptL pend kp j).length = (ascK kp j).length :=
  filterMap_len pend _ fun i hi => by have := ascK_in kp j i hi; omega
theorem kept_mem {pend : List (Nat × ByteArray)} {kp : Nat → Bool} {j : Nat} {x : Nat × ByteArray} (h : x ∈ keptL pend kp j) : x ∈ pend := by
  obtain ⟨i, _, hi⟩ := List.mem_filterMap.1 h
  exact List.mem_of_getElem? hi
/-- one write after the other, the last of N torn -/
def kfold (torn : Int) (N : Nat) : Nat → List (Nat × ByteArray) → List UInt8 → List UInt8
  | _, [], d => d
  | m, x :: r, d => kfold torn N (m + 1) r (lay d x.1 (if m + 1 = N ∧ 0 ≤ torn then tear torn x.2 else x.2).data.toList)
theorem crFold_kfold (pend : List (Nat × ByteArray)) (torn : Int) (N : Nat) : ∀ (l : List Int) (m : Nat) (d : List UInt8), (∀ i ∈ l, 0 ≤ i ∧ i < pend.length) → crFold pend torn N m l d = kfold torn N m (l.filterMap fun i => pend[i.toNat]?) d
  | [], _, _, _ => rfl
  | i :: l, m, d, h => by
    have hi := h i (List.mem_cons_self ..)
    have hg : pend[i.toNat]? = some (pend[i.toNat]'(by omega)) := List.getElem?_eq_getElem (by omega)
    have hs : crStep pend torn N m i d = lay d (pend[i.toNat]'(by omega)).1 (if m + 1 = N ∧ 0 ≤ torn then tear torn (pend[i.toNat]'(by omega)).2 else (pend[i.toNat]'(by omega)).2).data.toList := by
      rw [crStep, hg]
      simp only [torn1]
      by_cases hc : m + 1 = N ∧ 0 ≤ torn
      · simp only [if_pos hc]
      · simp only [if_neg hc]
    rw [crFold, crFold_kfold pend torn N l (m + 1) _ fun y hy => h y (List.mem_cons_of_mem _ hy), List.filterMap_cons, hg, hs]
    rfl
theorem crash_eq (S : Dk) (keep : List Int) (torn : Int) : S.crash keep torn = ⟨false, 0, kfold torn (keptL S.pend (fun j => keep.contains (j : Int)) S.pend.length).length 0 (keptL S.pend (fun j => keep.contains (j : Int)) S.pend.length) S.dur, kfold torn (keptL S.pend (fun j => keep.contains (j : Int)) S.pend.length).length 0 (keptL S.pend (fun j => keep.contains (j : Int)) S.pend.length) S.dur, []⟩ := by
  rw [Dk.crash, survive_eq, kept_len (Nat.le_refl _)]
  simp only [crFold_kfold S.pend torn _ _ 0 S.dur (ascK_in _ _)]
  rfl
end Go.Proofs.YtllbphanfahkkaaGreatDoor.RW

/-
  Journals, plain: what a power failure leaves of an Append: no program in sight.
-/
namespace Go.Proofs.YtllbphanfahkkaaGreatDoor.RW
open Go Go.RowKit
/-- a crash with one pending write leaves a part of it -/
theorem crash_one {S : Dk} {o : Nat} {s : List UInt8} (hp : S.pend = [(o, strOf s)]) (keep : List Int) (torn : Int) : ∃ k, k ≤ s.length ∧ S.crash keep torn = ⟨false, 0, lay S.dur o (s.take k), lay S.dur o (s.take k), []⟩ := by
  rw [crash_eq, hp]
  by_cases hk : keep.contains (0 : Int) = true
  · have e : keptL [(o, strOf s)] (fun j => keep.contains (j : Int)) [(o, strOf s)].length = [(o, strOf s)] := by
      show keptL _ _ (0 + 1) = _
      rw [kept_yes (x := (o, strOf s)) rfl (by simpa using hk), kept_zero]
      rfl
    rw [e]
    by_cases ht : 0 ≤ torn
    · refine ⟨min torn.toNat s.length, Nat.min_le_right _ _, ?_⟩
      have e2 : (tear torn (strOf s)).data.toList = s.take (min torn.toNat s.length) := by
        unfold tear
        rw [strOf_size]
        simp [strOf]
      simp [kfold, ht, e2]
    · refine ⟨s.length, Nat.le_refl _, ?_⟩
      simp [kfold, ht, strOf_list]
  · have e : keptL [(o, strOf s)] (fun j => keep.contains (j : Int)) [(o, strOf s)].length = [] := by
      show keptL _ _ (0 + 1) = _
      rw [kept_no (by simpa using hk), kept_zero]
    rw [e]
    exact ⟨0, Nat.zero_le _, by simp [kfold, lay_none]⟩
theorem crash_zero {S : Dk} (hp : S.pend = []) (keep : List Int) (torn : Int) : S.crash keep torn = ⟨false, 0, S.dur, S.dur, []⟩ := by
  rw [crash_eq, hp]
  rfl
section
variable (H : List UInt8 → List UInt8)
theorem lost_crash {n : Nat} {S' : Dk} {rs l : List ByteArray} (h : ∃ (o : Nat) (s : List UInt8), S'.pend = [(o, strOf s)] ∧ o + s.length ≤ n ∧ ∀ k, k ≤ s.length → (Lies H n (lay S'.dur o (s.take k)) rs ∨ Lies H n (lay S'.dur o (s.take k)) (rs ++ l))) (keep : List Int) (torn : Int) :
    ∃ c, S'.crash keep torn = ⟨false, 0, c, c, []⟩ ∧ (Lies H n c rs ∨ Lies H n c (rs ++ l)) := by
  obtain ⟨o, s, hp, _, hk⟩ := h
  obtain ⟨k, hk0, e⟩ := crash_one hp keep torn
  exact ⟨_, e, hk k hk0⟩
theorem inv_crash {n : Nat} {S : Dk} {rs : List ByteArray} (h : JInv H n S rs) (keep : List Int) (torn : Int) : ∃ c, S.crash keep torn = ⟨false, 0, c, c, []⟩ ∧ Lies H n c rs := by
  rw [crash_zero h.pend, h.dur]
  exact ⟨_, rfl, Lies.of_cont H h.fits h.lims⟩
end
end Go.Proofs.YtllbphanfahkkaaGreatDoor.RW

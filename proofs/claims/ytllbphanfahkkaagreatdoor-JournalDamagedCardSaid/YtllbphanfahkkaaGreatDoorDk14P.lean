/-
  Survivors of a crash: plain Lean, no condition beyond each theorem's own premises.
-/
import Derived.Test.YtllbphanfahkkaaGreatDoorDk8
namespace Go.Proofs.YtllbphanfahkkaaGreatDoor.RW
theorem asc_mem_ext : ∀ {l m : List Int}, l.Pairwise (· < ·) → m.Pairwise (· < ·) → (∀ x, x ∈ l ↔ x ∈ m) → l = m
  | [], [], _, _, _ => rfl
  | [], y :: m, _, _, h => absurd ((h y).2 (List.mem_cons_self ..)) (by simp)
  | x :: l, [], _, _, h => absurd ((h x).1 (List.mem_cons_self ..)) (by simp)
  | x :: l, y :: m, hl, hm, h => by
    rw [List.pairwise_cons] at hl hm
    have hxy : x = y := by
      have h1 := (h x).1 (List.mem_cons_self ..)
      have h2 := (h y).2 (List.mem_cons_self ..)
      rcases List.mem_cons.1 h1 with e | e
      · exact e
      · rcases List.mem_cons.1 h2 with e' | e'
        · exact e'.symm
        · have := hl.1 y e'
          have := hm.1 x e
          omega
    subst hxy
    congr 1
    refine asc_mem_ext hl.2 hm.2 fun z => ?_
    have hz := h z
    rw [List.mem_cons, List.mem_cons] at hz
    constructor
    · intro hzl
      have := hl.1 z hzl
      exact (hz.1 (.inr hzl)).resolve_left (by omega)
    · intro hzm
      have := hm.1 z hzm
      exact (hz.2 (.inr hzm)).resolve_left (by omega)
theorem sort_asc {keep asc : List Int} (hp : keep.Perm asc) (hs : asc.Pairwise (· < ·)) : keep.mergeSort (fun x y => decide (x ≤ y)) = asc := by
  have hperm := (List.mergeSort_perm keep (fun x y => decide (x ≤ y))).trans hp
  have hle := List.pairwise_mergeSort (le := fun x y : Int => decide (x ≤ y)) (by intro a b c h1 h2; simp at *; omega) (by intro a b; simp; omega) keep
  have hnd : asc.Nodup := hs.imp (by intro a b h e; omega)
  have hnd2 := hperm.nodup_iff.2 hnd
  refine asc_mem_ext ?_ hs fun x => hperm.mem_iff
  have h2 := List.Pairwise.and hle hnd2
  exact h2.imp (by intro a b h; have h1 := h.1; simp at h1; have h2 := h.2; omega)
theorem compact_asc {asc : List Int} (hs : asc.Pairwise (· < ·)) : Lib.compact asc = asc := by
  have hk : ∀ j, j < asc.toArray.size → Lib.keeps asc.toArray j = true := by
    intro j hj
    have hj' : j < asc.length := by simpa using hj
    unfold Lib.keeps
    rw [decide_eq_true_eq]
    cases j with
    | zero => exact .inl rfl
    | succ i =>
      right
      have h1 := List.pairwise_iff_getElem.1 hs i (i + 1) (by omega) hj' (by omega)
      rw [Nat.add_sub_cancel, getElem!_pos asc.toArray (i + 1) (by simpa using hj'), getElem!_pos asc.toArray i (by simp; omega)]
      simp
      omega
  unfold Lib.compact
  rw [Lib.compactUpTo_all _ _ (fun j hj => hk j (by simpa using hj))]
  apply List.ext_getElem
  · simp
  · intro i h1 h2
    have h3 : i < asc.toArray.size := by simpa using h2
    simp only [List.getElem_map, List.getElem_range]
    rw [getElem!_pos asc.toArray i h3]
    simp
theorem survive_asc {k : Nat} {keep asc : List Int} (hp : keep.Perm asc) (hs : asc.Pairwise (· < ·)) (hr : ∀ x ∈ asc, 0 ≤ x ∧ x < k) : survive k keep = asc := by
  unfold survive
  rw [sort_asc hp hs, compact_asc hs]
  refine List.filter_eq_self.2 fun x hx => ?_
  have := hr x hx
  simp [outB]
  omega
/-- 0 .. k-1 -/
def rangeL (k : Nat) : List Int := (List.range k).map fun i : Nat => (i : Int)
theorem rangeL_succ (k : Nat) : rangeL (k + 1) = rangeL k ++ [(k : Int)] := by simp [rangeL, List.range_succ]
theorem rangeL_len (k : Nat) : (rangeL k).length = k := by simp [rangeL]
theorem rangeL_asc (k : Nat) : (rangeL k).Pairwise (· < ·) := by
  unfold rangeL
  rw [List.pairwise_map]
  exact List.pairwise_lt_range.imp (by intro a b h; omega)
theorem survive_range (k : Nat) : survive k (rangeL k) = rangeL k := survive_asc (List.Perm.refl _) (rangeL_asc k) (by
  intro x hx
  obtain ⟨i, hi, rfl⟩ := List.mem_map.1 hx
  rw [List.mem_range] at hi
  omega)
/-- all writes, one after the other -/
def replay : List (Nat × ByteArray) → List UInt8 → List UInt8
  | [], d => d
  | x :: r, d => replay r (lay d x.1 x.2.data.toList)
theorem replay_snoc : ∀ (p : List (Nat × ByteArray)) (x : Nat × ByteArray) (d : List UInt8), replay (p ++ [x]) d = lay (replay p d) x.1 x.2.data.toList
  | [], _, _ => rfl
  | y :: p, x, d => replay_snoc p x _
theorem fold_all (pend : List (Nat × ByteArray)) (torn : Int) (ht : torn < 0) (N : Nat) : ∀ (q m : Nat) (d : List UInt8), m + q = pend.length → crFold pend torn N m ((rangeL pend.length).drop m) d = replay (pend.drop m) d
  | 0, m, d, h => by
    rw [List.drop_eq_nil_iff.2 (by rw [rangeL_len]; omega), List.drop_eq_nil_iff.2 (by omega)]
    rfl
  | q + 1, m, d, h => by
    have hm : m < pend.length := by omega
    rw [List.drop_eq_getElem_cons (by rw [rangeL_len]; exact hm), List.drop_eq_getElem_cons hm, crFold, replay]
    have hg : (rangeL pend.length)[m]'(by rw [rangeL_len]; exact hm) = (m : Int) := by simp [rangeL]
    rw [hg, crStep, Int.toNat_natCast, List.getElem?_eq_getElem hm]
    simp only [torn1, if_neg (show ¬ (m + 1 = N ∧ 0 ≤ torn) by omega)]
    exact fold_all pend torn ht N q (m + 1) _ (by omega)
theorem crash_all (S : Dk) (torn : Int) (ht : torn < 0) : S.crash (rangeL S.pend.length) torn = ⟨false, 0, replay S.pend S.dur, replay S.pend S.dur, []⟩ := by
  rw [Dk.crash, survive_range]
  have := fold_all S.pend torn ht (rangeL S.pend.length).length S.pend.length 0 S.dur (by omega)
  rw [List.drop_zero, List.drop_zero] at this
  simp only [this]
end Go.Proofs.YtllbphanfahkkaaGreatDoor.RW

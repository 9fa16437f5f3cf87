/-
  Ballot, the plain side: validity by kinds: no program in sight.
-/
import Derived.Test.YtcbckcojebanaaaDoorMC
namespace Go.Proofs.YtcbckcojebanaaaDoor.RW
open Go Go.RowKit
theorem msgB_far {K n : Nat → Int} {d : List UInt8} {l : List (List UInt8)} (h : ¬ (site (n 1) = true ∧ site (n 2) = true ∧ n 1 ≠ n 2)) : msgB K n d l = false := by
  unfold msgB
  rw [Bool.and_eq_false_iff]
  left
  cases h1 : site (n 1)
  · rfl
  · cases h2 : site (n 2)
    · rfl
    · cases h3 : (n 1 != n 2)
      · rfl
      · exact absurd ⟨h1, h2, by simpa using h3⟩ h
theorem msgB_near {K n : Nat → Int} {d : List UInt8} {l : List (List UInt8)} (h : site (n 1) = true ∧ site (n 2) = true ∧ n 1 ≠ n 2) : msgB K n d l =
    (if n 0 = 1 then plainB n d && decide (1 ≤ l.length ∧ l.length ≤ 100) && l.all (fun s => decide (1 ≤ s.length ∧ s.length ≤ 4000))
     else if n 0 = 2 then plainB n d && decide (1 ≤ l.length) && asc l
     else if n 0 = 3 then placedB n && asc l && decide (-1 ≤ n 5 ∧ n 5 < n 4) && (d == sha K (valL l))
     else if voteK (n 0) = true then placedB n && decide (n 5 = 0) && l.isEmpty && (d.isEmpty || d.length == 32)
     else false) := by
  unfold msgB
  rw [h.1, h.2.1, show (n 1 != n 2) = true by simpa using h.2.2]
  rfl
theorem len32 (d : ByteArray) : ((d.size : Int) == 32) = (d.data.toList.length == 32) := by
  rw [Array.length_toList, show d.data.size = d.size from rfl, Bool.eq_iff_iff, beq_iff_eq, beq_iff_eq]
  omega
theorem all_long : ∀ l : List ByteArray, (bl l).all (fun s => decide (1 ≤ s.length ∧ s.length ≤ 4000)) = !(l.any longB)
  | [] => rfl
  | s :: l => by
    have e : decide (1 ≤ s.data.toList.length ∧ s.data.toList.length ≤ 4000) = !(longB s) := by
      unfold longB
      rw [Array.length_toList, show s.data.size = s.size from rfl, ← decide_not]
      exact decide_eq_decide.2 (by omega)
    show (decide (1 ≤ s.data.toList.length ∧ s.data.toList.length ≤ 4000) && (bl l).all _) = _
    rw [all_long l, e, List.any_cons, Bool.not_or]
theorem bl_len' (l : List ByteArray) : (bl l).length = l.length := List.length_map ..
theorem msgB_k1 {K n : Nat → Int} {d : List UInt8} {l : List ByteArray} (h : site (n 1) = true ∧ site (n 2) = true ∧ n 1 ≠ n 2) (k : n 0 = 1) : msgB K n d (bl l) = (plainB n d && decide (1 ≤ l.length ∧ l.length ≤ 100) && !(l.any longB)) := by
  rw [msgB_near h, if_pos k, all_long, bl_len']
theorem msgB_k2 {K n : Nat → Int} {d : List UInt8} {l : List ByteArray} (h : site (n 1) = true ∧ site (n 2) = true ∧ n 1 ≠ n 2) (k : n 0 = 2) : msgB K n d (bl l) = (plainB n d && decide (1 ≤ l.length) && asc (bl l)) := by
  rw [msgB_near h, if_neg (by omega), if_pos k, bl_len']
theorem msgB_k3 {K n : Nat → Int} {d : List UInt8} {l : List ByteArray} (h : site (n 1) = true ∧ site (n 2) = true ∧ n 1 ≠ n 2) (k : n 0 = 3) : msgB K n d (bl l) = (placedB n && asc (bl l) && decide (-1 ≤ n 5 ∧ n 5 < n 4) && (d == sha K (valL (bl l)))) := by
  rw [msgB_near h, if_neg (by omega), if_neg (by omega), if_pos k]
theorem msgB_k4 {K n : Nat → Int} {d : List UInt8} {l : List ByteArray} (h : site (n 1) = true ∧ site (n 2) = true ∧ n 1 ≠ n 2) (k : voteK (n 0) = true) : msgB K n d (bl l) = (placedB n && decide (n 5 = 0) && decide (l.length = 0) && (d.isEmpty || d.length == 32)) := by
  have k' := k
  simp only [voteK, decide_eq_true_eq] at k'
  rw [msgB_near h, if_neg (by omega), if_neg (by omega), if_neg (by omega), if_pos k]
  congr 2
  cases l <;> simp [bl]
theorem msgB_k0 {K n : Nat → Int} {d : List UInt8} {l : List ByteArray} (h : site (n 1) = true ∧ site (n 2) = true ∧ n 1 ≠ n 2) (k1 : n 0 ≠ 1) (k2 : n 0 ≠ 2) (k3 : n 0 ≠ 3) (k : voteK (n 0) = false) : msgB K n d (bl l) = false := by
  rw [msgB_near h, if_neg k1, if_neg k2, if_neg k3, if_neg (by rw [k]; simp)]
end Go.Proofs.YtcbckcojebanaaaDoor.RW

/-
  The root of a list, plain: the stack of complete parts; what it keeps: no program in sight.
-/
import Derived.Test.YtllbphanfahkkaaGreatDoorDr1
namespace Go.Proofs.YtllbphanfahkkaaGreatDoor.RW
open Go Go.RowKit
theorem sha_lenD (K : Nat → Int) (l : List UInt8) : (sha K l).length = 32 := by simp [sha, dig]
theorem leafB_size (K : Nat → Int) (s : ByteArray) : (leafB K s).size = 32 := by
  show (sha K _).toArray.size = 32
  rw [List.size_toArray, sha_lenD]
theorem nodeB_size (K : Nat → Int) (a b : ByteArray) : (nodeB K a b).size = 32 := by
  show (sha K _).toArray.size = 32
  rw [List.size_toArray, sha_lenD]
/-- a part comes onto the stack, the last one first -/
def mrg (K : Nat → Int) (x : ByteArray × Nat) : List (ByteArray × Nat) → List (ByteArray × Nat)
  | [] => [x]
  | y :: l => if y.2 = x.2 then mrg K (nodeB K y.1 x.1, 2 * x.2) l else x :: y :: l
def stk (K : Nat → Int) (l : List ByteArray) : List (ByteArray × Nat) := l.foldl (fun st s => mrg K (leafB K s, 1) st) []
/-- the root of what is on the stack -/
def rootS (K : Nat → Int) : List (ByteArray × Nat) → ByteArray
  | [] => ⟨(sha K []).toArray⟩
  | x :: st => st.foldl (fun acc r => nodeB K r.1 acc) x.1
def rootB (K : Nat → Int) (l : List ByteArray) : ByteArray := rootS K (stk K l)
def sumS (l : List (ByteArray × Nat)) : Nat := (l.map (·.2)).sum
theorem sumS_cons (x : ByteArray × Nat) (l : List (ByteArray × Nat)) : sumS (x :: l) = x.2 + sumS l := rfl
/-- parts of digests, of at least one entry each -/
def StOk (l : List (ByteArray × Nat)) : Prop := ∀ x ∈ l, x.1.size = 32 ∧ 1 ≤ x.2
theorem mrg_ok (K : Nat → Int) : ∀ (l : List (ByteArray × Nat)) (x : ByteArray × Nat), x.1.size = 32 → 1 ≤ x.2 → StOk l → sumS (mrg K x l) = x.2 + sumS l ∧ StOk (mrg K x l)
  | [], x, h1, h2, _ => ⟨rfl, fun z hz => by rw [List.mem_singleton.1 hz]; exact ⟨h1, h2⟩⟩
  | y :: l, x, h1, h2, h => by
    unfold mrg
    split
    · rename_i e
      obtain ⟨g1, g2⟩ := mrg_ok K l (nodeB K y.1 x.1, 2 * x.2) (nodeB_size _ _ _) (show 1 ≤ 2 * x.2 by omega) (fun z hz => h z (by simp [hz]))
      refine ⟨?_, g2⟩
      rw [g1, sumS_cons, e]
      show 2 * x.2 + sumS l = _
      omega
    · refine ⟨rfl, fun z hz => ?_⟩
      rcases List.mem_cons.1 hz with rfl | hz
      · exact ⟨h1, h2⟩
      · exact h z hz
theorem stk_snoc (K : Nat → Int) (l : List ByteArray) (s : ByteArray) : stk K (l ++ [s]) = mrg K (leafB K s, 1) (stk K l) := by unfold stk; rw [List.foldl_append]; rfl
theorem stk_ok (K : Nat → Int) (l : List ByteArray) : sumS (stk K l) = l.length ∧ StOk (stk K l) := by
  have key : ∀ n, n ≤ l.length → sumS (stk K (l.take n)) = n ∧ StOk (stk K (l.take n)) := by
    intro n
    induction n with
    | zero => intro _; exact ⟨rfl, fun x hx => by cases hx⟩
    | succ n ih =>
      intro hn
      obtain ⟨h1, h2⟩ := ih (by omega)
      rw [List.take_succ_eq_append_getElem (by omega), stk_snoc]
      obtain ⟨g1, g2⟩ := mrg_ok K (stk K (l.take n)) (leafB K l[n], 1) (leafB_size _ _) (Nat.le_refl _) h2
      exact ⟨by rw [g1, h1]; show 1 + n = _; omega, g2⟩
  have := key l.length (Nat.le_refl _)
  rwa [List.take_length] at this
theorem len_sum : ∀ (l : List (ByteArray × Nat)), StOk l → l.length ≤ sumS l
  | [], _ => Nat.zero_le _
  | x :: l, h => by
    have h1 := len_sum l (fun z hz => h z (by simp [hz]))
    have h2 := (h x (by simp)).2
    rw [sumS_cons, List.length_cons]
    omega
/-- the stack's rows, the first part first -/
def wholes (l : List (ByteArray × Nat)) : List ByteArray := (l.map (·.1)).reverse
def sizesN (l : List (ByteArray × Nat)) : List Nat := (l.map (·.2)).reverse
theorem wholes_len (l : List (ByteArray × Nat)) : (wholes l).length = l.length := by simp [wholes]
theorem sizesN_len (l : List (ByteArray × Nat)) : (sizesN l).length = l.length := by simp [sizesN]
theorem wholes_cons (x : ByteArray × Nat) (l : List (ByteArray × Nat)) : wholes (x :: l) = wholes l ++ [x.1] := by simp [wholes]
theorem sizesN_cons (x : ByteArray × Nat) (l : List (ByteArray × Nat)) : sizesN (x :: l) = sizesN l ++ [x.2] := by simp [sizesN]
theorem wholes_last (x : ByteArray × Nat) (l : List (ByteArray × Nat)) : (wholes (x :: l))[l.length]? = some x.1 := by rw [wholes_cons, List.getElem?_append_right (by rw [wholes_len]; omega), wholes_len, Nat.sub_self]; rfl
theorem sizesN_last (x : ByteArray × Nat) (l : List (ByteArray × Nat)) : (sizesN (x :: l))[l.length]? = some x.2 := by rw [sizesN_cons, List.getElem?_append_right (by rw [sizesN_len]; omega), sizesN_len, Nat.sub_self]; rfl
theorem wholes_two (x y : ByteArray × Nat) (l : List (ByteArray × Nat)) : (wholes (x :: y :: l))[l.length]? = some y.1 := by rw [wholes_cons, List.getElem?_append_left (by rw [wholes_len]; simp), wholes_last]
theorem sizesN_two (x y : ByteArray × Nat) (l : List (ByteArray × Nat)) : (sizesN (x :: y :: l))[l.length]? = some y.2 := by rw [sizesN_cons, List.getElem?_append_left (by rw [sizesN_len]; simp), sizesN_last]
theorem wholes_cut (x y : ByteArray × Nat) (l : List (ByteArray × Nat)) : (wholes (x :: y :: l)).take l.length = wholes l := by rw [wholes_cons, wholes_cons, List.append_assoc, List.take_append_of_le_length (by rw [wholes_len]; omega), List.take_of_length_le (by rw [wholes_len]; omega)]
theorem sizesN_cut (x y : ByteArray × Nat) (l : List (ByteArray × Nat)) : (sizesN (x :: y :: l)).take l.length = sizesN l := by rw [sizesN_cons, sizesN_cons, List.append_assoc, List.take_append_of_le_length (by rw [sizesN_len]; omega), List.take_of_length_le (by rw [sizesN_len]; omega)]
end Go.Proofs.YtllbphanfahkkaaGreatDoor.RW

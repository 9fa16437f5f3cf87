/-
  slices.IndexFunc and slices.DeleteFunc at strings, with a predicate that lays memory: the strings that stay; only new memory and the row are written.
-/
import Derived.Test.YtllbphanfahkkaaGreatDoorFs2
namespace Go.Proofs.YtllbphanfahkkaaGreatDoor
open Go.RowKit RG
theorem strCellsD : ∀ l : List ByteArray, rowCells (fun s => [Value.string s]) l = l.map Value.string
  | [] => rfl
  | x :: l => by
    have := strCellsD l
    unfold rowCells at this ⊢
    rw [List.flatMap_cons, this]
    rfl
/-- the first string that the predicate meets -/
def IdxS (p : ByteArray → Bool) (l : List ByteArray) (r : Int) : Prop := (r = -1 ∧ ∀ x ∈ l, p x = false) ∨ ∃ i : Nat, r = i ∧ i < l.length ∧ (∀ x ∈ l.take i, p x = false) ∧ ∀ x, l[i]? = some x → p x = true
/-- the strings that the predicate does not meet -/
def RW.misL (p : ByteArray → Bool) (l : List ByteArray) : List ByteArray := l.filter fun x => !p x
theorem RW.mis_take_succ {p : ByteArray → Bool} {l : List ByteArray} {j : Nat} {x : ByteArray} (h : l[j]? = some x) : RW.misL p (l.take (j + 1)) = RW.misL p (l.take j) ++ if p x then [] else [x] := by
  rw [List.take_add_one, h]
  unfold RW.misL
  cases hq : p x <;> simp [List.filter_append, List.filter_cons, hq]
theorem RW.mis_all {p : ByteArray → Bool} {l : List ByteArray} (h : ∀ x ∈ l, p x = false) : RW.misL p l = l := List.filter_eq_self.2 fun x hx => by rw [h x hx]; rfl
abbrev ReO (W : World) (B : Nat) (v : Value) (l : List ByteArray) : Prop := W.ownsRow B 9 1 v l.length (rowCells (fun s => [Value.string s]) l)
theorem str_zeroD (w : World) : (zeroValue 9).run Tryz.prog w = .ok (.string ⟨#[]⟩) w := by go_simp
end Go.Proofs.YtllbphanfahkkaaGreatDoor

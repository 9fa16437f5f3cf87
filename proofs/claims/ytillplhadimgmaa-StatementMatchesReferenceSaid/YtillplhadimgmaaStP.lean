/-
  Statements, plain: lines, rows, what is paid, what a statement says.
-/
import Derived.Test.YtillplhadimgmaaGv
namespace Go.Proofs.Ytillplhadimgmaa
open Go.RowKit
namespace RW
/-- a line: its period, what was paid before, what after -/
abbrev Ln := Int × Int × Int
def lnl (x : Ln) : List Value := [.int .i64 x.1, .int .i64 x.2.1, .int .i64 x.2.2]
/-- a row of the books: its twelve numbers -/
abbrev Rw := Nat → Int
def rwl (f : Rw) : List Value := [.int .i64 (f 0), .int .i64 (f 1), .int .i64 (f 2), .int .i64 (f 3), .int .i64 (f 4), .int .i64 (f 5), .int .i64 (f 6), .int .i64 (f 7), .int .i64 (f 8), .int .i64 (f 9), .int .i64 (f 10), .int .i64 (f 11)]
def mon (n : Int) : Bool := decide (0 ≤ n ∧ n ≤ 1000000000000000)
theorem mon_pos {n : Int} (h0 : 0 ≤ n) (h1 : n ≤ 1000000000000000) : mon n = true := decide_eq_true ⟨h0, h1⟩
theorem mon_neg0 {n : Int} (h : n < 0) : mon n = false := decide_eq_false (by omega)
theorem mon_neg1 {n : Int} (h : 1000000000000000 < n) : mon n = false := decide_eq_false (by omega)
theorem mon_iff {n : Int} : mon n = true ↔ 0 ≤ n ∧ n ≤ 1000000000000000 := by simp [mon]
def monL (x : Ln) : Bool := mon x.2.1 && mon x.2.2
/-- what a line pays -/
def pay (x : Ln) : Int := if monL x = true then x.2.2 - x.2.1 else 0
def tot (l : List Ln) : Int := (l.map pay).sum
theorem pay_bd (x : Ln) : -1000000000000000 ≤ pay x ∧ pay x ≤ 1000000000000000 := by
  unfold pay
  split
  · rename_i h
    rw [monL, Bool.and_eq_true, mon_iff, mon_iff] at h
    omega
  · omega
theorem tot_bd : ∀ l : List Ln, -(1000000000000000 * (l.length : Int)) ≤ tot l ∧ tot l ≤ 1000000000000000 * (l.length : Int)
  | [] => by simp [tot]
  | x :: l => by
    have h1 := tot_bd l
    have h2 := pay_bd x
    unfold tot at h1 ⊢
    rw [List.map_cons, List.sum_cons, List.length_cons, Int.natCast_add, Int.mul_add]
    omega
theorem tot_snoc (l : List Ln) (x : Ln) : tot (l ++ [x]) = tot l + pay x := by simp [tot]
/-- what a row pays a holder for a period -/
def pays (h p : Int) (r : Rw) : Int := if r 0 = h ∧ r 1 = p then r 10 else 0
def paid (l : List Rw) (h p : Int) : Int := (l.map (pays h p)).sum
theorem paid_snoc (l : List Rw) (r : Rw) (h p : Int) : paid (l ++ [r]) h p = paid l h p + pays h p r := by simp [paid]
/-- rows whose payments are not far from 0 -/
def NearR (l : List Rw) : Prop := ∀ r ∈ l, -2000000000000000 ≤ r 10 ∧ r 10 ≤ 2000000000000000
theorem paid_bd (h p : Int) : ∀ l : List Rw, NearR l → -(2000000000000000 * (l.length : Int)) ≤ paid l h p ∧ paid l h p ≤ 2000000000000000 * (l.length : Int)
  | [], _ => by simp [paid]
  | r :: l, hn => by
    have h1 := paid_bd h p l fun x hx => hn x (List.mem_cons_of_mem _ hx)
    have h2 := hn r List.mem_cons_self
    have h3 : -2000000000000000 ≤ pays h p r ∧ pays h p r ≤ 2000000000000000 := by
      unfold pays
      split <;> omega
    unfold paid at h1 ⊢
    rw [List.map_cons, List.sum_cons, List.length_cons, Int.natCast_add, Int.mul_add]
    omega
theorem near_take {l : List Rw} (h : NearR l) (j : Nat) : NearR (l.take j) := fun x hx => h x (List.mem_of_mem_take hx)
/-- the periods, in which the holder has rows -/
def pers (l : List Rw) (h : Int) : List Int := asc ((l.filter fun r => decide (r 0 = h)).map fun r => r 1)
def hols (l : List Rw) : List Int := asc (l.map fun r => r 0)
def lnOf (b a : List Rw) (h p : Int) : Ln := (p, paid b h p, paid a h p)
def dif (x : Ln) : Bool := decide (x.2.1 ≠ x.2.2)
def lns (b a : List Rw) (h : Int) : List Ln := ((pers (b ++ a) h).map (lnOf b a h)).filter dif
/-- a statement: holder, closing, lines -/
abbrev St := Int × Int × List Ln
def stOf (b a : List Rw) (c h : Int) : St := (h, c, lns b a h)
def stAll (b a : List Rw) (c : Int) : List St := ((hols (b ++ a)).map (stOf b a c)).filter fun s => decide (0 < s.2.2.length)
/-- lines that ascend from above 'last' -/
def lnsB : Int → List Ln → Bool
  | _, [] => true
  | z, x :: l => decide (z < x.1) && decide (x.1 < 1200) && monL x && dif x && lnsB x.1 l
def valB (s : St) : Bool := lnsB (-1) s.2.2 && (decide (1 ≤ s.1 ∧ s.1 ≤ 1000000) && (decide (0 ≤ s.2.1 ∧ s.2.1 < 1200) && decide (1 ≤ s.2.2.length)))
end RW
end Go.Proofs.Ytillplhadimgmaa

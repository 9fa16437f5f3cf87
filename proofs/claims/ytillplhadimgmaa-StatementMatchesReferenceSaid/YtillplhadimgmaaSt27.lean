/-
  Package royaltylaw19: what a statement says depends only on the rows of its holder; single operations.
-/
import Derived.Test.YtillplhadimgmaaSt24
import Derived.Test.YtillplhadimgmaaSt26
namespace Go.Proofs.Ytillplhadimgmaa
open Go.RowKit RG
namespace RW
/-- the rows of one holder -/
def ofH (h : Int) (l : List Rw) : List Rw := l.filter fun r => decide (r 0 = h)
theorem ofH_snoc (h : Int) (l : List Rw) (r : Rw) : ofH h (l ++ [r]) = ofH h l ++ (if r 0 = h then [r] else []) := by
  unfold ofH
  rw [List.filter_append]
  by_cases e : r 0 = h
  · rw [if_pos e, List.filter_cons_of_pos (by simpa using e), List.filter_nil]
  · rw [if_neg e, List.filter_cons_of_neg (by simpa using e), List.filter_nil]
theorem paid_ofH (h p : Int) (l : List Rw) : paid (ofH h l) h p = paid l h p := by
  unfold paid ofH
  induction l with
  | nil => rfl
  | cons r l ih =>
    by_cases e : r 0 = h
    · rw [List.filter_cons_of_pos (by simpa using e), List.map_cons, List.sum_cons, ih, List.map_cons, List.sum_cons]
    · rw [List.filter_cons_of_neg (by simpa using e), ih, List.map_cons, List.sum_cons, pays, if_neg (fun c => e c.1), Int.zero_add]
theorem pers_ofH (h : Int) (l : List Rw) : pers (ofH h l) h = pers l h := by
  unfold pers ofH
  rw [List.filter_filter]
  simp only [Bool.and_self]
theorem lns_ofH (b a : List Rw) (h : Int) : lns (ofH h b) (ofH h a) h = lns b a h := by
  have h1 : pers (ofH h b ++ ofH h a) h = pers (b ++ a) h := by
    rw [← pers_ofH h (b ++ a)]
    unfold ofH
    rw [List.filter_append]
  have h2 : lnOf (ofH h b) (ofH h a) h = lnOf b a h := funext fun p => by unfold lnOf; rw [paid_ofH, paid_ofH]
  unfold lns
  rw [h1, h2]
theorem lns_same (a : List Rw) (h : Int) : lns a a h = [] := by
  unfold lns
  rw [List.filter_eq_nil_iff]
  intro x hx
  obtain ⟨p, _, rfl⟩ := List.mem_map.1 hx
  simp [lnOf, dif]
theorem stAll_same (a : List Rw) (c : Int) : stAll a a c = [] := by
  unfold stAll
  rw [List.filter_eq_nil_iff]
  intro s hs
  obtain ⟨p, _, rfl⟩ := List.mem_map.1 hs
  simp [stOf, lns_same]
theorem ofH_len (h : Int) (l : List Rw) : (ofH h l).length ≤ l.length := List.length_filter_le _ _
theorem ofH_near {h : Int} {l : List Rw} (hl : NearR l) : NearR (ofH h l) := fun q hq => hl q (List.mem_filter.1 hq).1
end RW
section
variable {ev : Operand → Value} {o : Oper} {x : Operand} {w : World}
theorem op_len_sts {a : Option Addr} {n c : Nat} (ho : o.op = .call { callee := .builtin .len, args := #[x], argTypes := #[44] }) (hx : ev x = .slice a n c) : (execOp ev o).run Try.prog w = .ok (.value (.int .i64 n)) w := by
  unfold execOp
  rw [ho]
  go_simp
theorem op_len_lns {a : Option Addr} {n c : Nat} (ho : o.op = .call { callee := .builtin .len, args := #[x], argTypes := #[37] }) (hx : ev x = .slice a n c) : (execOp ev o).run Try.prog w = .ok (.value (.int .i64 n)) w := by
  unfold execOp
  rw [ho]
  go_simp
theorem op_fld2 {h c : Int} {v : Value} (ho : o.op = .field 39 x 2) (hx : ev x = .agg #[.int .i64 h, .int .i64 c, v]) : (execOp ev o).run Try.prog w = .ok (.value v) w := by
  unfold execOp
  rw [ho]
  go_simp
  simp [Instr.field, asAgg, part]
theorem op_bs_rw {q : RW.Rw} (ho : o.op = .buildSlice 23 1 #[(0, x)]) (hx : ev x = .agg (RW.rwl q).toArray) : (execOp ev o).run Try.prog w = .ok (.value (.slice (some ⟨w.heap.size, 0, none⟩) 1 1)) (w.alloc (.cells (RW.rwl q).toArray 57)) := by
  unfold execOp
  rw [ho]
  have hl : (RW.rwl q).length = 12 := rfl
  go_simp
  simp [RW.rwl]
end
theorem cf_all : ∀ args w, (callFunc 18 args).run Try.prog w = .ok (.enter 18 args) w := fun args w => by go_simp
theorem bk_one {W : World} {B : Nat} {v : Value} {l : List RW.Rw} (h : RwsO W B v l) (z : Int) : (bks z v).all (·.oneCell') = true := by
  obtain ⟨a, c, rfl⟩ := h.form
  simp [bks]
  exact ⟨rfl, rfl, rfl, rfl⟩
theorem sl_stc {W : World} {g : Nat} {z : Int} {v u : Value} (h : W.heap[g]? = some (.cells (bks z v) 28 (0, 0))) : (W.setCell ⟨g, 2, none⟩ u).heap[g]? = some (.cells (bks z u) 28 (0, 0)) := (heap_setCell_same _ _ _ _ _ _ h).trans rfl
theorem sl_st {W : World} {g : Nat} {z : Int} {v : Value} (h : W.heap[g]? = some (.cells (bks z v) 28 (0, 0))) (a : Option Addr) (n c : Nat) : (stRow 23 (.pointer (some ⟨g, 2, none⟩)) (.slice a n c)).run Try.prog W = .ok () (W.setCell ⟨g, 2, none⟩ (.slice a n c)) := by
  have h1 : W.cell? ⟨g, 2, none⟩ = some v := cellAt h 2
  have h2 : W.frozen? ⟨g, 2, none⟩ = false := by simp [World.frozen?, h]
  unfold stRow
  go_simp
end Go.Proofs.Ytillplhadimgmaa

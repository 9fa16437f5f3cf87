/-
  Facts as rows, by stages: what the operations of a region on facts do: no condition beyond each theorem's own premises.
-/
import Derived.Test.YtnlphbfjeekooaaGreatDoorME
import Derived.Test.YtnlphbfjeekooaaGreatDoorStage
namespace Go.Proofs.YtnlphbfjeekooaaGreatDoor
open Go.RowKit RG
theorem op_load_int {ev : Operand → Value} {o : Oper} {x : Operand} {b i : Nat} {n : Int} {w : World} (ho : o.op = .load 3 x) (hx : ev x = .pointer (some ⟨b, i, none⟩)) (hc : w.cell? ⟨b, i, none⟩ = some (.int .i64 n)) :
    (execOp ev o).run Tryz.prog w = .ok (.value (.int .i64 n)) w := by
  unfold execOp
  rw [ho]
  simp only [hx]
  go_simp
theorem op_load_str {ev : Operand → Value} {o : Oper} {x : Operand} {b i : Nat} {n : ByteArray} {w : World} (ho : o.op = .load 9 x) (hx : ev x = .pointer (some ⟨b, i, none⟩)) (hc : w.cell? ⟨b, i, none⟩ = some (.string n)) :
    (execOp ev o).run Tryz.prog w = .ok (.value (.string n)) w := by
  unfold execOp
  rw [ho]
  simp only [hx]
  go_simp
theorem op_load_fact {ev : Operand → Value} {o : Oper} {x : Operand} {b : Nat} {cs : Array Value} {w : World} (ho : o.op = .load 38 x) (hx : ev x = .pointer (some ⟨b, 0, none⟩)) (hc : (ldRow 38 (.pointer (some ⟨b, 0, none⟩))).run Tryz.prog w = .ok (.agg cs) w) :
    (execOp ev o).run Tryz.prog w = .ok (.value (.agg cs)) w := by
  unfold execOp
  rw [ho]
  simp only [hx]
  rw [← ldRow_fact] at hc
  simp [hc]
theorem op_store_int {ev : Operand → Value} {o : Oper} {x y : Operand} {b i : Nat} {n : Int} {v : Value} {w : World} (ho : o.op = .store 3 x y) (hx : ev x = .pointer (some ⟨b, i, none⟩)) (hy : ev y = .int .i64 n) (hc : w.cell? ⟨b, i, none⟩ = some v) (hf : w.frozen? ⟨b, i, none⟩ = false) :
    (execOp ev o).run Tryz.prog w = .ok .skip (w.setCell ⟨b, i, none⟩ (.int .i64 n)) := by
  unfold execOp
  rw [ho]
  simp only [hx, hy]
  go_simp
theorem op_fa_0 {ev : Operand → Value} {o : Oper} {x : Operand} {b : Nat} {w : World} (ho : o.op = .fieldAddr 38 x 0) (hx : ev x = .pointer (some ⟨b, 0, none⟩)) : (execOp ev o).run Tryz.prog w = .ok (.value (.pointer (some ⟨b, 0, none⟩))) w := by
  unfold execOp
  rw [ho]
  simp only [hx]
  go_simp
theorem op_fa_1 {ev : Operand → Value} {o : Oper} {x : Operand} {b : Nat} {w : World} (ho : o.op = .fieldAddr 38 x 1) (hx : ev x = .pointer (some ⟨b, 0, none⟩)) : (execOp ev o).run Tryz.prog w = .ok (.value (.pointer (some ⟨b, 1, none⟩))) w := by
  unfold execOp
  rw [ho]
  simp only [hx]
  go_simp
theorem op_fa_2 {ev : Operand → Value} {o : Oper} {x : Operand} {b : Nat} {w : World} (ho : o.op = .fieldAddr 38 x 2) (hx : ev x = .pointer (some ⟨b, 0, none⟩)) : (execOp ev o).run Tryz.prog w = .ok (.value (.pointer (some ⟨b, 2, none⟩))) w := by
  unfold execOp
  rw [ho]
  simp only [hx]
  go_simp
theorem op_fa_3 {ev : Operand → Value} {o : Oper} {x : Operand} {b : Nat} {w : World} (ho : o.op = .fieldAddr 38 x 3) (hx : ev x = .pointer (some ⟨b, 0, none⟩)) : (execOp ev o).run Tryz.prog w = .ok (.value (.pointer (some ⟨b, 3, none⟩))) w := by
  unfold execOp
  rw [ho]
  simp only [hx]
  go_simp
theorem op_fa_4 {ev : Operand → Value} {o : Oper} {x : Operand} {b : Nat} {w : World} (ho : o.op = .fieldAddr 38 x 4) (hx : ev x = .pointer (some ⟨b, 0, none⟩)) : (execOp ev o).run Tryz.prog w = .ok (.value (.pointer (some ⟨b, 4, none⟩))) w := by
  unfold execOp
  rw [ho]
  simp only [hx]
  go_simp
theorem op_fa_5 {ev : Operand → Value} {o : Oper} {x : Operand} {b : Nat} {w : World} (ho : o.op = .fieldAddr 38 x 5) (hx : ev x = .pointer (some ⟨b, 0, none⟩)) : (execOp ev o).run Tryz.prog w = .ok (.value (.pointer (some ⟨b, 5, none⟩))) w := by
  unfold execOp
  rw [ho]
  simp only [hx]
  go_simp
theorem op_fa_6 {ev : Operand → Value} {o : Oper} {x : Operand} {b : Nat} {w : World} (ho : o.op = .fieldAddr 38 x 6) (hx : ev x = .pointer (some ⟨b, 0, none⟩)) : (execOp ev o).run Tryz.prog w = .ok (.value (.pointer (some ⟨b, 6, none⟩))) w := by
  unfold execOp
  rw [ho]
  simp only [hx]
  go_simp
theorem op_fa_7 {ev : Operand → Value} {o : Oper} {x : Operand} {b : Nat} {w : World} (ho : o.op = .fieldAddr 38 x 7) (hx : ev x = .pointer (some ⟨b, 0, none⟩)) : (execOp ev o).run Tryz.prog w = .ok (.value (.pointer (some ⟨b, 7, none⟩))) w := by
  unfold execOp
  rw [ho]
  simp only [hx]
  go_simp
theorem op_fa_8 {ev : Operand → Value} {o : Oper} {x : Operand} {b : Nat} {w : World} (ho : o.op = .fieldAddr 38 x 8) (hx : ev x = .pointer (some ⟨b, 0, none⟩)) : (execOp ev o).run Tryz.prog w = .ok (.value (.pointer (some ⟨b, 8, none⟩))) w := by
  unfold execOp
  rw [ho]
  simp only [hx]
  go_simp
theorem op_fa_9 {ev : Operand → Value} {o : Oper} {x : Operand} {b : Nat} {w : World} (ho : o.op = .fieldAddr 38 x 9) (hx : ev x = .pointer (some ⟨b, 0, none⟩)) : (execOp ev o).run Tryz.prog w = .ok (.value (.pointer (some ⟨b, 9, none⟩))) w := by
  unfold execOp
  rw [ho]
  simp only [hx]
  go_simp
theorem op_fa_10 {ev : Operand → Value} {o : Oper} {x : Operand} {b : Nat} {w : World} (ho : o.op = .fieldAddr 38 x 10) (hx : ev x = .pointer (some ⟨b, 0, none⟩)) : (execOp ev o).run Tryz.prog w = .ok (.value (.pointer (some ⟨b, 10, none⟩))) w := by
  unfold execOp
  rw [ho]
  simp only [hx]
  go_simp
theorem op_fa_11 {ev : Operand → Value} {o : Oper} {x : Operand} {b : Nat} {w : World} (ho : o.op = .fieldAddr 38 x 11) (hx : ev x = .pointer (some ⟨b, 0, none⟩)) : (execOp ev o).run Tryz.prog w = .ok (.value (.pointer (some ⟨b, 11, none⟩))) w := by
  unfold execOp
  rw [ho]
  simp only [hx]
  go_simp
theorem op_fa_12 {ev : Operand → Value} {o : Oper} {x : Operand} {b : Nat} {w : World} (ho : o.op = .fieldAddr 38 x 12) (hx : ev x = .pointer (some ⟨b, 0, none⟩)) : (execOp ev o).run Tryz.prog w = .ok (.value (.pointer (some ⟨b, 12, none⟩))) w := by
  unfold execOp
  rw [ho]
  simp only [hx]
  go_simp
theorem op_fa_13 {ev : Operand → Value} {o : Oper} {x : Operand} {b : Nat} {w : World} (ho : o.op = .fieldAddr 38 x 13) (hx : ev x = .pointer (some ⟨b, 0, none⟩)) : (execOp ev o).run Tryz.prog w = .ok (.value (.pointer (some ⟨b, 13, none⟩))) w := by
  unfold execOp
  rw [ho]
  simp only [hx]
  go_simp
theorem op_fa_14 {ev : Operand → Value} {o : Oper} {x : Operand} {b : Nat} {w : World} (ho : o.op = .fieldAddr 38 x 14) (hx : ev x = .pointer (some ⟨b, 0, none⟩)) : (execOp ev o).run Tryz.prog w = .ok (.value (.pointer (some ⟨b, 14, none⟩))) w := by
  unfold execOp
  rw [ho]
  simp only [hx]
  go_simp
theorem op_fa_15 {ev : Operand → Value} {o : Oper} {x : Operand} {b : Nat} {w : World} (ho : o.op = .fieldAddr 38 x 15) (hx : ev x = .pointer (some ⟨b, 0, none⟩)) : (execOp ev o).run Tryz.prog w = .ok (.value (.pointer (some ⟨b, 15, none⟩))) w := by
  unfold execOp
  rw [ho]
  simp only [hx]
  go_simp
theorem op_fa_16 {ev : Operand → Value} {o : Oper} {x : Operand} {b : Nat} {w : World} (ho : o.op = .fieldAddr 38 x 16) (hx : ev x = .pointer (some ⟨b, 0, none⟩)) : (execOp ev o).run Tryz.prog w = .ok (.value (.pointer (some ⟨b, 16, none⟩))) w := by
  unfold execOp
  rw [ho]
  simp only [hx]
  go_simp
theorem op_fa_17 {ev : Operand → Value} {o : Oper} {x : Operand} {b : Nat} {w : World} (ho : o.op = .fieldAddr 38 x 17) (hx : ev x = .pointer (some ⟨b, 0, none⟩)) : (execOp ev o).run Tryz.prog w = .ok (.value (.pointer (some ⟨b, 17, none⟩))) w := by
  unfold execOp
  rw [ho]
  simp only [hx]
  go_simp
theorem op_store_str {ev : Operand → Value} {o : Oper} {x y : Operand} {b i : Nat} {n : ByteArray} {v : Value} {w : World} (ho : o.op = .store 9 x y) (hx : ev x = .pointer (some ⟨b, i, none⟩)) (hy : ev y = .string n) (hc : w.cell? ⟨b, i, none⟩ = some v) (hf : w.frozen? ⟨b, i, none⟩ = false) :
    (execOp ev o).run Tryz.prog w = .ok .skip (w.setCell ⟨b, i, none⟩ (.string n)) := by
  unfold execOp
  rw [ho]
  simp only [hx, hy]
  go_simp
theorem op_store_fact {ev : Operand → Value} {o : Oper} {x y : Operand} {b : Nat} {cs : Array Value} {w : World} (ho : o.op = .store 38 x y) (hx : ev x = .pointer (some ⟨b, 0, none⟩)) (hy : ev y = .agg cs)
    (hc : (stRow 38 (.pointer (some ⟨b, 0, none⟩)) (.agg cs)).run Tryz.prog w = .ok () (w.setRow b cs)) : (execOp ev o).run Tryz.prog w = .ok .skip (w.setRow b cs) := by
  unfold execOp
  rw [ho]
  simp only [hx, hy]
  rw [← stRow_facL] at hc
  simp [hc]
theorem op_call1 {ev : Operand → Value} {o : Oper} {x : Operand} {k : Nat} {ts : Array TypeId} {n : Value} {w : World} (ho : o.op = .call ⟨.value (.func k), #[x], ts⟩) (hf : ev (.func k) = .func (.func k) #[] #[]) (hx : ev x = n) (hk : ∀ args w, (callFunc k args).run Tryz.prog w = .ok (.enter k args) w) : (execOp ev o).run Tryz.prog w = .ok (.enter k #[n]) w := by
  unfold execOp
  rw [ho]
  go_simp
theorem op_call3 {ev : Operand → Value} {o : Oper} {x y z : Operand} {k : Nat} {ts : Array TypeId} {n l m : Value} {w : World} (ho : o.op = .call ⟨.value (.func k), #[x, y, z], ts⟩) (hf : ev (.func k) = .func (.func k) #[] #[]) (hx : ev x = n) (hy : ev y = l) (hz : ev z = m) (hk : ∀ args w, (callFunc k args).run Tryz.prog w = .ok (.enter k args) w) : (execOp ev o).run Tryz.prog w = .ok (.enter k #[n, l, m]) w := by
  unfold execOp
  rw [ho]
  go_simp
theorem cf_within : ∀ args w, (callFunc 62 args).run Tryz.prog w = .ok (.enter 62 args) w := fun args w => by go_simp
theorem cf_id : ∀ args w, (callFunc 87 args).run Tryz.prog w = .ok (.enter 87 args) w := fun args w => by go_simp
theorem cf_territory : ∀ args w, (callFunc 88 args).run Tryz.prog w = .ok (.enter 88 args) w := fun args w => by go_simp
theorem cf_period : ∀ args w, (callFunc 89 args).run Tryz.prog w = .ok (.enter 89 args) w := fun args w => by go_simp
theorem op_len {ev : Operand → Value} {o : Oper} {x : Operand} {s : ByteArray} {w : World} (ho : o.op = .call ⟨.builtin .len, #[x], #[9]⟩) (hx : ev x = .string s) (_hs : s.size ≤ 9223372036854775807) : (execOp ev o).run Tryz.prog w = .ok (.value (.int .i64 s.size)) w := by
  unfold execOp
  rw [ho]
  go_simp
theorem op_leq {ev : Operand → Value} {o : Oper} {x y : Operand} {m n : Int} {w : World} (ho : o.op = .binOp .leq 3 x y 3) (hx : ev x = .int .i64 m) (hy : ev y = .int .i64 n) : (execOp ev o).run Tryz.prog w = .ok (.value (.bool (decide (m ≤ n)))) w := by
  unfold execOp
  rw [ho]
  simp only [hx, hy]
  go_simp
theorem op_geq {ev : Operand → Value} {o : Oper} {x y : Operand} {m n : Int} {w : World} (ho : o.op = .binOp .geq 3 x y 3) (hx : ev x = .int .i64 m) (hy : ev y = .int .i64 n) : (execOp ev o).run Tryz.prog w = .ok (.value (.bool (decide (n ≤ m)))) w := by
  unfold execOp
  rw [ho]
  simp only [hx, hy]
  go_simp
theorem op_lss {ev : Operand → Value} {o : Oper} {x y : Operand} {m n : Int} {w : World} (ho : o.op = .binOp .lss 3 x y 3) (hx : ev x = .int .i64 m) (hy : ev y = .int .i64 n) : (execOp ev o).run Tryz.prog w = .ok (.value (.bool (decide (m < n)))) w := by
  unfold execOp
  rw [ho]
  simp only [hx, hy]
  go_simp
theorem op_pick {ev : Operand → Value} {o : Oper} {x y z : Operand} {p q : Bool} {u v : Value} {w : World} (ho : o.op = .pick x y z) (hx : ev x = .bool p) (hy : ev y = u) (hz : ev z = v) (hq : (if p = true then u else v) = .bool q) : (execOp ev o).run Tryz.prog w = .ok (.value (.bool q)) w := by
  unfold execOp
  rw [ho]
  simp only [hx, hy, hz]
  rw [← hq]
  go_simp
theorem FRows.text {l : List (Nat × (Nat → Int) × ByteArray)} {w W : World} (h : FRows l w W) (b : Nat) (f : Nat → Int) (s : ByteArray) (hx : (b, f, s) ∈ l) : W.cell? ⟨b, 17, none⟩ = some (.string s) := by
  rw [cell_of_heap (h.rows _ hx), fcells_text]
theorem FRows.settext {l : List (Nat × (Nat → Int) × ByteArray)} {w W : World} {b : Nat} {f : Nat → Int} {s : ByteArray} (h : FRows ((b, f, s) :: l) w W) (hb : w.heap.size ≤ b) (hne : ∀ x ∈ l, x.1 ≠ b) (u : ByteArray) :
    FRows ((b, f, u) :: l) w (W.setCell ⟨b, 17, none⟩ (.string u)) :=
  ⟨h.below.setCell hb _, fun x hx => by
    rcases List.mem_cons.1 hx with rfl | hx
    · have := heap_setCell_same W b 17 _ _ (.string u) (h.rows (b, f, s) (by simp))
      rw [RW.fcells_settext] at this
      exact this
    · exact (Below.heap_setCell _ _ _ _ (hne x hx)).trans (h.rows x (by simp [hx]))⟩
namespace RW
/-- stages of a row whose cells are stored one after the other -/
def gst (g : Nat → Int) (l : List (Nat × Int)) (j : Nat) : Nat → Int := (l.take j).foldl (fun g x => upd g x.1 x.2) g
end RW
theorem rest_results (tmps : Array Value) (w : World) (B : Nat) (cs : Array Value) (v : Bool) (hn : cs.size = 18) (h4 : tmps[4]? = some (.pointer (some ⟨B, 0, none⟩))) (h5 : tmps[5]? = some (.bool v))
    (hx : w.heap[B]? = some (.cells cs 38 (0, 0))) : (results Tryz.f90 tmps).run Tryz.prog w = .ok (.tuple #[.agg cs, .bool v]) w := by
  have hi1 : (Tryz.prog.info? 38).map (·.size) = some cs.size := by rw [hn]; kernel_rfl
  have e1 := run_loadVar_row (P := Tryz.prog) w B 38 38 cs (0, 0) _ hx Tryz.underlying38 rfl hi1
  simp [results, Tryz.results90, h4, h5, asAddr, e1]
theorem fields_results (tmps : Array Value) (w : World) (B : Nat) (cs : Array Value) (v : Bool) (hn : cs.size = 18) (h4 : tmps[2]? = some (.pointer (some ⟨B, 0, none⟩))) (h5 : tmps[3]? = some (.bool v))
    (hx : w.heap[B]? = some (.cells cs 38 (0, 0))) : (results Tryz.f61 tmps).run Tryz.prog w = .ok (.tuple #[.agg cs, .bool v]) w := by
  have hi1 : (Tryz.prog.info? 38).map (·.size) = some cs.size := by rw [hn]; kernel_rfl
  have e1 := run_loadVar_row (P := Tryz.prog) w B 38 38 cs (0, 0) _ hx Tryz.underlying38 rfl hi1
  simp [results, Tryz.results61, h4, h5, asAddr, e1]
end Go.Proofs.YtnlphbfjeekooaaGreatDoor

/-
  Messages by stages: what single operations do: no condition beyond each theorem's own premises.
-/
import Derived.Test.YtcbckcojebanaaaDoorMC
import Derived.Test.YtcbckcojebanaaaDoorStage
namespace Go.Proofs.YtcbckcojebanaaaDoor
open Go.RowKit RG
theorem op_load_int {ev : Operand → Value} {o : Oper} {x : Operand} {b i : Nat} {n : Int} {w : World} (ho : o.op = .load 3 x) (hx : ev x = .pointer (some ⟨b, i, none⟩)) (hc : w.cell? ⟨b, i, none⟩ = some (.int .i64 n)) :
    (execOp ev o).run Tryd.prog w = .ok (.value (.int .i64 n)) w := by
  unfold execOp
  rw [ho]
  simp only [hx]
  go_simp
theorem op_load_str {ev : Operand → Value} {o : Oper} {x : Operand} {b i : Nat} {n : ByteArray} {w : World} (ho : o.op = .load 9 x) (hx : ev x = .pointer (some ⟨b, i, none⟩)) (hc : w.cell? ⟨b, i, none⟩ = some (.string n)) :
    (execOp ev o).run Tryd.prog w = .ok (.value (.string n)) w := by
  unfold execOp
  rw [ho]
  simp only [hx]
  go_simp
theorem op_fa_0 {ev : Operand → Value} {o : Oper} {x : Operand} {b : Nat} {w : World} (ho : o.op = .fieldAddr 24 x 0) (hx : ev x = .pointer (some ⟨b, 0, none⟩)) : (execOp ev o).run Tryd.prog w = .ok (.value (.pointer (some ⟨b, 0, none⟩))) w := by
  unfold execOp
  rw [ho]
  simp only [hx]
  go_simp
theorem op_fa_1 {ev : Operand → Value} {o : Oper} {x : Operand} {b : Nat} {w : World} (ho : o.op = .fieldAddr 24 x 1) (hx : ev x = .pointer (some ⟨b, 0, none⟩)) : (execOp ev o).run Tryd.prog w = .ok (.value (.pointer (some ⟨b, 1, none⟩))) w := by
  unfold execOp
  rw [ho]
  simp only [hx]
  go_simp
theorem op_fa_2 {ev : Operand → Value} {o : Oper} {x : Operand} {b : Nat} {w : World} (ho : o.op = .fieldAddr 24 x 2) (hx : ev x = .pointer (some ⟨b, 0, none⟩)) : (execOp ev o).run Tryd.prog w = .ok (.value (.pointer (some ⟨b, 2, none⟩))) w := by
  unfold execOp
  rw [ho]
  simp only [hx]
  go_simp
theorem op_fa_3 {ev : Operand → Value} {o : Oper} {x : Operand} {b : Nat} {w : World} (ho : o.op = .fieldAddr 24 x 3) (hx : ev x = .pointer (some ⟨b, 0, none⟩)) : (execOp ev o).run Tryd.prog w = .ok (.value (.pointer (some ⟨b, 3, none⟩))) w := by
  unfold execOp
  rw [ho]
  simp only [hx]
  go_simp
theorem op_fa_4 {ev : Operand → Value} {o : Oper} {x : Operand} {b : Nat} {w : World} (ho : o.op = .fieldAddr 24 x 4) (hx : ev x = .pointer (some ⟨b, 0, none⟩)) : (execOp ev o).run Tryd.prog w = .ok (.value (.pointer (some ⟨b, 4, none⟩))) w := by
  unfold execOp
  rw [ho]
  simp only [hx]
  go_simp
theorem op_fa_5 {ev : Operand → Value} {o : Oper} {x : Operand} {b : Nat} {w : World} (ho : o.op = .fieldAddr 24 x 5) (hx : ev x = .pointer (some ⟨b, 0, none⟩)) : (execOp ev o).run Tryd.prog w = .ok (.value (.pointer (some ⟨b, 5, none⟩))) w := by
  unfold execOp
  rw [ho]
  simp only [hx]
  go_simp
theorem op_fa_6 {ev : Operand → Value} {o : Oper} {x : Operand} {b : Nat} {w : World} (ho : o.op = .fieldAddr 24 x 6) (hx : ev x = .pointer (some ⟨b, 0, none⟩)) : (execOp ev o).run Tryd.prog w = .ok (.value (.pointer (some ⟨b, 6, none⟩))) w := by
  unfold execOp
  rw [ho]
  simp only [hx]
  go_simp
theorem op_fa_7 {ev : Operand → Value} {o : Oper} {x : Operand} {b : Nat} {w : World} (ho : o.op = .fieldAddr 24 x 7) (hx : ev x = .pointer (some ⟨b, 0, none⟩)) : (execOp ev o).run Tryd.prog w = .ok (.value (.pointer (some ⟨b, 7, none⟩))) w := by
  unfold execOp
  rw [ho]
  simp only [hx]
  go_simp
theorem op_call1 {ev : Operand → Value} {o : Oper} {x : Operand} {k : Nat} {ts : Array TypeId} {n : Value} {w : World} (ho : o.op = .call ⟨.value (.func k), #[x], ts⟩) (hf : ev (.func k) = .func (.func k) #[] #[]) (hx : ev x = n) (hk : ∀ args w, (callFunc k args).run Tryd.prog w = .ok (.enter k args) w) : (execOp ev o).run Tryd.prog w = .ok (.enter k #[n]) w := by
  unfold execOp
  rw [ho]
  go_simp
theorem op_leq {ev : Operand → Value} {o : Oper} {x y : Operand} {m n : Int} {w : World} (ho : o.op = .binOp .leq 3 x y 3) (hx : ev x = .int .i64 m) (hy : ev y = .int .i64 n) : (execOp ev o).run Tryd.prog w = .ok (.value (.bool (decide (m ≤ n)))) w := by
  unfold execOp
  rw [ho]
  simp only [hx, hy]
  go_simp
theorem op_geq {ev : Operand → Value} {o : Oper} {x y : Operand} {m n : Int} {w : World} (ho : o.op = .binOp .geq 3 x y 3) (hx : ev x = .int .i64 m) (hy : ev y = .int .i64 n) : (execOp ev o).run Tryd.prog w = .ok (.value (.bool (decide (n ≤ m)))) w := by
  unfold execOp
  rw [ho]
  simp only [hx, hy]
  go_simp
theorem op_lss {ev : Operand → Value} {o : Oper} {x y : Operand} {m n : Int} {w : World} (ho : o.op = .binOp .lss 3 x y 3) (hx : ev x = .int .i64 m) (hy : ev y = .int .i64 n) : (execOp ev o).run Tryd.prog w = .ok (.value (.bool (decide (m < n)))) w := by
  unfold execOp
  rw [ho]
  simp only [hx, hy]
  go_simp
theorem op_pick {ev : Operand → Value} {o : Oper} {x y z : Operand} {p q : Bool} {u v : Value} {w : World} (ho : o.op = .pick x y z) (hx : ev x = .bool p) (hy : ev y = u) (hz : ev z = v) (hq : (if p = true then u else v) = .bool q) : (execOp ev o).run Tryd.prog w = .ok (.value (.bool q)) w := by
  unfold execOp
  rw [ho]
  simp only [hx, hy, hz]
  rw [← hq]
  go_simp
theorem op_eql_int {ev : Operand → Value} {o : Oper} {x y : Operand} {m n : Int} {w : World} (ho : o.op = .binOp .eql 3 x y 3) (hx : ev x = .int .i64 m) (hy : ev y = .int .i64 n) : (execOp ev o).run Tryd.prog w = .ok (.value (.bool (m == n))) w := by
  unfold execOp
  rw [ho]
  simp only [hx, hy]
  go_simp
theorem op_eql_errno {ev : Operand → Value} {o : Oper} {x y : Operand} {m n : Int} {w : World} (ho : o.op = .binOp .eql 27 x y 27) (hx : ev x = .int .i64 m) (hy : ev y = .int .i64 n) : (execOp ev o).run Tryd.prog w = .ok (.value (.bool (m == n))) w := by
  unfold execOp
  rw [ho]
  simp only [hx, hy]
  go_simp
theorem op_eql_str {ev : Operand → Value} {o : Oper} {x y : Operand} {m n : ByteArray} {w : World} (ho : o.op = .binOp .eql 9 x y 9) (hx : ev x = .string m) (hy : ev y = .string n) : (execOp ev o).run Tryd.prog w = .ok (.value (.bool (m.toList == n.toList))) w := by
  unfold execOp
  rw [ho]
  simp only [hx, hy]
  go_simp
end Go.Proofs.YtcbckcojebanaaaDoor

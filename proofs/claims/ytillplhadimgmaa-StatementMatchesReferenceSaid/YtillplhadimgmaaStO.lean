/-
  Single operations at statements and their lines: fields, elements, loads, comparisons, one call.
-/
import Derived.Test.YtillplhadimgmaaSt2
import Derived.Test.YtillplhadimgmaaOps
namespace Go.Proofs.Ytillplhadimgmaa
open Go.RowKit RG
theorem int_ld {W : World} {g i : Nat} {n : Int} (h : W.cell? ⟨g, i, none⟩ = some (.int .i64 n)) : (ldRow 3 (.pointer (some ⟨g, i, none⟩))).run Try.prog W = .ok (.int .i64 n) W := by
  unfold ldRow
  go_simp
theorem fa_st2 {b : Nat} (W : World) : (Instr.fieldAt 39 (.pointer (some ⟨b, 0, none⟩)) 2).run Try.prog W = .ok (.pointer (some ⟨b, 2, none⟩)) W := by
  go_simp
theorem ix_ln {b o n c : Nat} {j : Nat} (hj : j < n) (W : World) : (Instr.indexAt 37 (.slice (some ⟨b, o, none⟩) n c) (.int .i64 j)).run Try.prog W = .ok (.pointer (some ⟨b, o + j * 3, none⟩)) W := by
  go_simp
theorem fa_ln0 {b i : Nat} (W : World) : (Instr.fieldAt 61 (.pointer (some ⟨b, i, none⟩)) 0).run Try.prog W = .ok (.pointer (some ⟨b, i, none⟩)) W := by
  go_simp
theorem fa_ln1 {b i : Nat} (W : World) : (Instr.fieldAt 61 (.pointer (some ⟨b, i, none⟩)) 1).run Try.prog W = .ok (.pointer (some ⟨b, i + 1, none⟩)) W := by
  go_simp
theorem fa_ln2 {b i : Nat} (W : World) : (Instr.fieldAt 61 (.pointer (some ⟨b, i, none⟩)) 2).run Try.prog W = .ok (.pointer (some ⟨b, i + 2, none⟩)) W := by
  go_simp
theorem lsl_ld {W : World} {g i : Nat} {a : Option Addr} {n c : Nat} (h : W.cell? ⟨g, i, none⟩ = some (.slice a n c)) : (ldRow 37 (.pointer (some ⟨g, i, none⟩))).run Try.prog W = .ok (.slice a n c) W := by
  unfold ldRow
  go_simp
section
variable {ev : Operand → Value} {o : Oper} {x y z : Operand} {w : World} {a b : Int}
theorem op_lss (ho : o.op = .binOp .lss 3 x y 3) (hx : ev x = .int .i64 a) (hy : ev y = .int .i64 b) : (execOp ev o).run Try.prog w = .ok (.value (.bool (decide (a < b)))) w := by
  unfold execOp
  rw [ho]
  simp only [hx, hy]
  go_simp
theorem op_gtr (ho : o.op = .binOp .gtr 3 x y 3) (hx : ev x = .int .i64 a) (hy : ev y = .int .i64 b) : (execOp ev o).run Try.prog w = .ok (.value (.bool (decide (b < a)))) w := by
  unfold execOp
  rw [ho]
  simp only [hx, hy]
  go_simp
theorem op_leq (ho : o.op = .binOp .leq 3 x y 3) (hx : ev x = .int .i64 a) (hy : ev y = .int .i64 b) : (execOp ev o).run Try.prog w = .ok (.value (.bool (decide (a ≤ b)))) w := by
  unfold execOp
  rw [ho]
  simp only [hx, hy]
  go_simp
theorem op_geq (ho : o.op = .binOp .geq 3 x y 3) (hx : ev x = .int .i64 a) (hy : ev y = .int .i64 b) : (execOp ev o).run Try.prog w = .ok (.value (.bool (decide (b ≤ a)))) w := by
  unfold execOp
  rw [ho]
  simp only [hx, hy]
  go_simp
theorem op_eqi (ho : o.op = .binOp .eql 3 x y 3) (hx : ev x = .int .i64 a) (hy : ev y = .int .i64 b) : (execOp ev o).run Try.prog w = .ok (.value (.bool (decide (a = b)))) w := by
  unfold execOp
  rw [ho]
  simp only [hx, hy]
  go_simp
  by_cases h : a = b <;> simp [h]
theorem op_sub1 {j : Nat} (ho : o.op = .binOp .sub 3 x y 3) (hx : ev x = .int .i64 ((j + 1 : Nat) : Int)) (hy : ev y = .int .i64 1) (hj : j ≤ 1000000) : (execOp ev o).run Try.prog w = .ok (.value (.int .i64 (j : Int))) w := by
  unfold execOp
  rw [ho]
  simp only [hx, hy]
  go_simp
  rw [IntKind.wrap_i64]
  omega
theorem op_not {p : Bool} (ho : o.op = .unOp .not 4 x) (hx : ev x = .bool p) : (execOp ev o).run Try.prog w = .ok (.value (.bool (!p))) w := by
  unfold execOp
  rw [ho]
  simp only [hx]
  go_simp
theorem op_call1 {k : Nat} {ts : Array TypeId} {n : Value} (ho : o.op = .call ⟨.value (.func k), #[x], ts⟩) (hf : ev (.func k) = .func (.func k) #[] #[]) (hx : ev x = n) (hk : ∀ args w, (callFunc k args).run Try.prog w = .ok (.enter k args) w) : (execOp ev o).run Try.prog w = .ok (.enter k #[n]) w := by
  unfold execOp
  rw [ho]
  go_simp
end
theorem cf_rmoney : ∀ args w, (callFunc 31 args).run Try.prog w = .ok (.enter 31 args) w := fun args w => by go_simp
end Go.Proofs.Ytillplhadimgmaa

/-
  Parts and shares by stages: what single operations do: no condition beyond each theorem's own premises.
-/
import Derived.Test.YtnkdpfkmellpcaaSp8
namespace Go.Proofs.Ytnkdpfkmellpcaa
open Go.RowKit RG
section
variable {ev : Operand → Value} {o : Oper} {x y z : Operand} {w : World}
theorem op_mv {v : Value} (ho : o.op = .move x) (hx : ev x = v) : (execOp ev o).run Try.prog w = .ok (.value v) w := by
  unfold execOp
  rw [ho]
  simp only [hx]
  go_simp
theorem op_asg {v : Value} (ho : o.op = .assign x) (hx : ev x = v) : (execOp ev o).run Try.prog w = .ok (.value v) w := by
  unfold execOp
  rw [ho]
  simp only [hx]
  go_simp
theorem op_load_int {b i : Nat} {n : Int} (ho : o.op = .load 3 x) (hx : ev x = .pointer (some ⟨b, i, none⟩)) (hc : w.cell? ⟨b, i, none⟩ = some (.int .i64 n)) : (execOp ev o).run Try.prog w = .ok (.value (.int .i64 n)) w := by
  unfold execOp
  rw [ho]
  simp only [hx]
  go_simp
theorem op_fa_s0 {b : Nat} (ho : o.op = .fieldAddr 32 x 0) (hx : ev x = .pointer (some ⟨b, 0, none⟩)) : (execOp ev o).run Try.prog w = .ok (.value (.pointer (some ⟨b, 0, none⟩))) w := by
  unfold execOp
  rw [ho]
  simp only [hx]
  go_simp
theorem op_fa_p0 {b i : Nat} (ho : o.op = .fieldAddr 39 x 0) (hx : ev x = .pointer (some ⟨b, i, none⟩)) : (execOp ev o).run Try.prog w = .ok (.value (.pointer (some ⟨b, i, none⟩))) w := by
  unfold execOp
  rw [ho]
  simp only [hx]
  go_simp
theorem op_load_ps {b i : Nat} {p : Option Addr} {n c : Nat} (ho : o.op = .load 28 x) (hx : ev x = .pointer (some ⟨b, i, none⟩)) (hc : w.cell? ⟨b, i, none⟩ = some (.slice p n c)) : (execOp ev o).run Try.prog w = .ok (.value (.slice p n c)) w := by
  unfold execOp
  rw [ho]
  simp only [hx]
  go_simp
theorem op_idx_p {b ao i n c : Nat} (ho : o.op = .indexAddr 28 x y) (hx : ev x = .slice (some ⟨b, ao, none⟩) n c) (hy : ev y = .int .i64 i) (hi : i < n) : (execOp ev o).run Try.prog w = .ok (.value (.pointer (some ⟨b, ao + i * 2, none⟩))) w := by
  unfold execOp
  rw [ho]
  simp only [hx, hy]
  go_simp
theorem op_build_p {q : RW.Pt} (ho : o.op = .build 39 #[(0, x), (1, y)]) (hx : ev x = .int .i64 q.1) (hy : ev y = .int .i64 q.2) : (execOp ev o).run Try.prog w = .ok (.value (.agg (RW.pcl q).toArray)) w := by
  unfold execOp
  rw [ho]
  go_simp
  rfl
theorem op_bs_p {q : RW.Pt} (ho : o.op = .buildSlice 28 1 #[(0, x)]) (hx : ev x = .agg (RW.pcl q).toArray) : (execOp ev o).run Try.prog w = .ok (.value (.slice (some ⟨w.heap.size, 0, none⟩) 1 1)) (w.alloc (.cells (RW.pcl q).toArray 39)) := by
  have h2 := pcl_len q
  unfold execOp
  rw [ho]
  go_simp
  rfl
theorem op_app {t : TypeId} {v s v' : Value} {w' : World} (ho : o.op = .call { callee := .builtin .append, args := #[x, y], argTypes := #[t, t] }) (hx : ev x = v) (hy : ev y = s) (hr : (Builtin.append_ #[t, t] o.type #[v, s]).run Try.prog w = .ok v' w') :
    (execOp ev o).run Try.prog w = .ok (.value v') w' := by
  unfold execOp
  simp only [ho, resolve, invoke, builtin, Sem.run_bind, Sem.run_pure, Result.andThen_ok, List.map_toArray, List.map_cons, List.map_nil, hx, hy, hr]
theorem op_store_ps {b i : Nat} {p : Option Addr} {n c : Nat} {u : Value} (ho : o.op = .store 28 x y) (hx : ev x = .pointer (some ⟨b, i, none⟩)) (hy : ev y = .slice p n c) (hc : w.cell? ⟨b, i, none⟩ = some u) (hf : w.frozen? ⟨b, i, none⟩ = false) :
    (execOp ev o).run Try.prog w = .ok .skip (w.setCell ⟨b, i, none⟩ (.slice p n c)) := by
  unfold execOp
  rw [ho]
  go_simp
end
/-- four worlds, one behind the other -/
def st4 (W0 W1 W2 W3 : World) : Nat → World → Prop
  | 0, w => w = W0
  | 1, w => w = W1
  | 2, w => w = W2
  | _, w => w = W3
theorem st4_one {W0 W1 W2 W3 w : World} {j : Nat} (h : st4 W0 W1 W2 W3 j w) (hj : j ≤ 1) : w = W0 ∨ w = W1 := by
  have : j = 0 ∨ j = 1 := by omega
  rcases this with rfl | rfl
  · exact .inl h
  · exact .inr h
end Go.Proofs.Ytnkdpfkmellpcaa

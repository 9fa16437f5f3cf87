/-
  What the operations of a region do, one by one (words, bytes, indexes, calls): no condition beyond each theorem's own premises.
-/
import Derived.Test.YtllbphanfahkkaaGreatDoorRs1
import Derived.Test.YtllbphanfahkkaaGreatDoorMY0
import Derived.IntWalk
namespace Go.Proofs.YtllbphanfahkkaaGreatDoor
open Go.RowKit RG
namespace OP
variable {ev : Operand → Value} {o : Oper} {x y z : Operand} {w : World}
theorem sub_i {m n r : Int} (ho : o.op = .binOp .sub 3 x y 3) (hx : ev x = .int .i64 m) (hy : ev y = .int .i64 n) (h : m - n = r) (hb : -9223372036854775808 ≤ r ∧ r ≤ 9223372036854775807) : (execOp ev o).run Tryz.prog w = .ok (.value (.int .i64 r)) w := by
  have e : IntKind.i64.wrap (m - n) = r := by rw [h]; exact IntWalk.i64_in _ hb
  unfold execOp
  rw [ho]
  clear hb h
  go_simp
theorem add_i {m n r : Int} (ho : o.op = .binOp .add 3 x y 3) (hx : ev x = .int .i64 m) (hy : ev y = .int .i64 n) (h : m + n = r) (hb : -9223372036854775808 ≤ r ∧ r ≤ 9223372036854775807) : (execOp ev o).run Tryz.prog w = .ok (.value (.int .i64 r)) w := by
  have e : IntKind.i64.wrap (m + n) = r := by rw [h]; exact IntWalk.i64_in _ hb
  unfold execOp
  rw [ho]
  clear hb h
  go_simp
theorem mul_i {m n r : Int} (ho : o.op = .binOp .mul 3 x y 3) (hx : ev x = .int .i64 m) (hy : ev y = .int .i64 n) (h : m * n = r) (hb : -9223372036854775808 ≤ r ∧ r ≤ 9223372036854775807) : (execOp ev o).run Tryz.prog w = .ok (.value (.int .i64 r)) w := by
  have e : IntKind.i64.wrap (m * n) = r := by rw [h]; exact IntWalk.i64_in _ hb
  unfold execOp
  rw [ho]
  clear hb h
  go_simp
theorem add_u {m n : Int} (ho : o.op = .binOp .add 119 x y 119) (hx : ev x = .int .u32 m) (hy : ev y = .int .u32 n) : (execOp ev o).run Tryz.prog w = .ok (.value (.int .u32 ((m + n) % 4294967296))) w := by
  have e : IntKind.u32.wrap (m + n) = (m + n) % 4294967296 := IntKind.wrap_u32 _
  unfold execOp
  rw [ho]
  go_simp
theorem xor_u {m n : Int} (ho : o.op = .binOp .xor 119 x y 119) (hx : ev x = .int .u32 m) (hy : ev y = .int .u32 n) : (execOp ev o).run Tryz.prog w = .ok (.value (.int .u32 (bits .xor .u32 m n))) w := by
  unfold execOp
  rw [ho]
  go_simp
theorem and_u {m n : Int} (ho : o.op = .binOp .and 119 x y 119) (hx : ev x = .int .u32 m) (hy : ev y = .int .u32 n) : (execOp ev o).run Tryz.prog w = .ok (.value (.int .u32 (bits .and .u32 m n))) w := by
  unfold execOp
  rw [ho]
  go_simp
theorem or_u {m n : Int} (ho : o.op = .binOp .or 119 x y 119) (hx : ev x = .int .u32 m) (hy : ev y = .int .u32 n) : (execOp ev o).run Tryz.prog w = .ok (.value (.int .u32 (bits .or .u32 m n))) w := by
  unfold execOp
  rw [ho]
  go_simp
theorem not_u {m : Int} (ho : o.op = .unOp .xor 119 x) (hx : ev x = .int .u32 m) : (execOp ev o).run Tryz.prog w = .ok (.value (.int .u32 (bits .xor .u32 IntKind.u32.max m))) w := by
  unfold execOp
  rw [ho]
  go_simp
  rw [if_neg (by decide)]
theorem shr_u {m : Int} {n : Nat} (ho : o.op = .binOp .shr 119 x (.const (.int .u64 n)) 123) (hev : ev (.const (.int .u64 n)) = .int .u64 n) (hx : ev x = .int .u32 m) (hn : n < 32) : (execOp ev o).run Tryz.prog w = .ok (.value (.int .u32 (m / 2 ^ n))) w := by
  unfold execOp
  rw [ho]
  go_simp
theorem shl_u {m : Int} {n : Nat} (ho : o.op = .binOp .shl 119 x (.const (.int .u64 n)) 123) (hev : ev (.const (.int .u64 n)) = .int .u64 n) (hx : ev x = .int .u32 m) (hn : n < 32) : (execOp ev o).run Tryz.prog w = .ok (.value (.int .u32 (m * 2 ^ n % 4294967296))) w := by
  have e : IntKind.u32.wrap (m * 2 ^ n) = m * 2 ^ n % 4294967296 := IntKind.wrap_u32 _
  unfold execOp
  rw [ho]
  go_simp
theorem conv_up {m : Int} (ho : o.op = .convert 5 119 x) (hx : ev x = .int .u8 m) (hb : 0 ≤ m ∧ m ≤ 255) : (execOp ev o).run Tryz.prog w = .ok (.value (.int .u32 m)) w := by
  have e : IntKind.u32.wrap m = m := by rw [IntKind.wrap_u32]; omega
  unfold execOp
  rw [ho]
  go_simp
theorem conv_down {m : Int} (ho : o.op = .convert 119 5 x) (hx : ev x = .int .u32 m) : (execOp ev o).run Tryz.prog w = .ok (.value (.int .u8 (m % 256))) w := by
  have e : IntKind.u8.wrap m = m % 256 := IntKind.wrap_u8 _
  unfold execOp
  rw [ho]
  go_simp
theorem idx_w {g i n c : Nat} (ho : o.op = .indexAddr 120 x y) (hx : ev x = .slice (some ⟨g, 0, none⟩) n c) (hy : ev y = .int .i64 i) (hi : i < n) : (execOp ev o).run Tryz.prog w = .ok (.value (.pointer (some ⟨g, i, none⟩))) w := by
  unfold execOp
  rw [ho]
  go_simp
theorem idx_b {g ao i n c : Nat} (ho : o.op = .indexAddr 39 x y) (hx : ev x = .slice (some ⟨g, ao, none⟩) n c) (hy : ev y = .int .i64 i) (hi : i < n) : (execOp ev o).run Tryz.prog w = .ok (.value (.pointer (some ⟨g, ao + i, none⟩))) w := by
  unfold execOp
  rw [ho]
  go_simp
theorem load_u {a : Addr} {n : Int} (ho : o.op = .load 119 x) (hx : ev x = .pointer (some a)) (hc : w.cell? a = some (.int .u32 n)) : (execOp ev o).run Tryz.prog w = .ok (.value (.int .u32 n)) w := by
  unfold execOp
  rw [ho]
  go_simp
theorem load_b {a : Addr} {n : Int} (ho : o.op = .load 5 x) (hx : ev x = .pointer (some a)) (hc : w.cell? a = some (.int .u8 n)) : (execOp ev o).run Tryz.prog w = .ok (.value (.int .u8 n)) w := by
  unfold execOp
  rw [ho]
  go_simp
theorem cf_rot : ∀ args w, (callFunc 104 args).run Tryz.prog w = .ok (.enter 104 args) w := fun args w => by go_simp
theorem call2 {k : Nat} {ts : Array TypeId} {n l : Value} (ho : o.op = .call ⟨.value (.func k), #[x, y], ts⟩) (hf : ev (.func k) = .func (.func k) #[] #[]) (hx : ev x = n) (hy : ev y = l) (hk : ∀ args w, (callFunc k args).run Tryz.prog w = .ok (.enter k args) w) : (execOp ev o).run Tryz.prog w = .ok (.enter k #[n, l]) w := by
  unfold execOp
  rw [ho]
  go_simp
theorem build_w {v : Int} (ho : o.op = .buildSlice 120 1 #[(0, x)]) (hx : ev x = .int .u32 v) : (execOp ev o).run Tryz.prog w = .ok (.value (.slice (some ⟨w.heap.size, 0, none⟩) 1 1)) (w.alloc (.cells #[.int .u32 v] 119)) := by
  unfold execOp
  rw [ho]
  go_simp
theorem build_b4 {x1 x2 x3 : Operand} {a b c d : Int} (ho : o.op = .buildSlice 39 4 #[(0, x), (1, x1), (2, x2), (3, x3)]) (hx : ev x = .int .u8 a) (hx1 : ev x1 = .int .u8 b) (hx2 : ev x2 = .int .u8 c) (hx3 : ev x3 = .int .u8 d) :
    (execOp ev o).run Tryz.prog w = .ok (.value (.slice (some ⟨w.heap.size, 0, none⟩) 4 4)) (w.alloc (.cells #[.int .u8 a, .int .u8 b, .int .u8 c, .int .u8 d] 5)) := by
  unfold execOp
  rw [ho]
  go_simp
theorem build_w8 {x1 x2 x3 x4 x5 x6 x7 : Operand} {a b c d e f g h : Int} (ho : o.op = .buildSlice 120 8 #[(0, x), (1, x1), (2, x2), (3, x3), (4, x4), (5, x5), (6, x6), (7, x7)]) (hx : ev x = .int .u32 a) (hx1 : ev x1 = .int .u32 b) (hx2 : ev x2 = .int .u32 c) (hx3 : ev x3 = .int .u32 d)
    (hx4 : ev x4 = .int .u32 e) (hx5 : ev x5 = .int .u32 f) (hx6 : ev x6 = .int .u32 g) (hx7 : ev x7 = .int .u32 h) :
    (execOp ev o).run Tryz.prog w = .ok (.value (.slice (some ⟨w.heap.size, 0, none⟩) 8 8)) (w.alloc (.cells #[.int .u32 a, .int .u32 b, .int .u32 c, .int .u32 d, .int .u32 e, .int .u32 f, .int .u32 g, .int .u32 h] 119)) := by
  unfold execOp
  rw [ho]
  go_simp
theorem app {t : TypeId} {v s v' : Value} {w' : World} (ho : o.op = .call { callee := .builtin .append, args := #[x, y], argTypes := #[t, t] }) (hx : ev x = v) (hy : ev y = s) (hr : (Builtin.append_ #[t, t] o.type #[v, s]).run Tryz.prog w = .ok v' w') :
    (execOp ev o).run Tryz.prog w = .ok (.value v') w' := by
  unfold execOp
  simp only [ho, resolve, invoke, builtin, Sem.run_bind, Sem.run_pure, Result.andThen_ok, List.map_toArray, List.map_cons, List.map_nil, hx, hy, hr]
end OP
end Go.Proofs.YtllbphanfahkkaaGreatDoor

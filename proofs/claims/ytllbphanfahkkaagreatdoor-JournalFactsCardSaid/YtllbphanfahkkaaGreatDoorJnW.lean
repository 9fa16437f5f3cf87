/-
  Package royaltylaw23: calls as arguments (Op), the operations on them.
-/
import Derived.Test.YtllbphanfahkkaaGreatDoorJnT
import Derived.Test.YtllbphanfahkkaaGreatDoorJnV
namespace Go.Proofs.YtllbphanfahkkaaGreatDoor
open Go.RowKit RG
namespace RW
/-- a call -/
structure Opc where
  kind : Int
  lv : Value
  l : List ByteArray
  n : Int
  kv : Value
  keep : List Int
def opl (o : Opc) : List Value := [.int .i64 o.kind, o.lv, .int .i64 o.n, o.kv]
theorem opl_len (o : Opc) : (opl o).length = 4 := rfl
end RW
/-- what is read of a call's row -/
def OpG (W : World) (o : RW.Opc) : Prop := StrR W o.lv o.l ∧ o.l.length ≤ 9223372036854775807 ∧ IntR W o.kv o.keep ∧ o.keep.length ≤ 9223372036854775807 ∧ (-9223372036854775808 ≤ o.kind ∧ o.kind ≤ 9223372036854775807) ∧ (-9223372036854775808 ≤ o.n ∧ o.n ≤ 9223372036854775807)
/-- a row of calls -/
def OpsR (W : World) (v : Value) (os : List RW.Opc) : Prop := RowV 4 RW.opl W v os ∧ ∀ o ∈ os, OpG W o
theorem OpG.next {W W' : World} {o : RW.Opc} (h : OpG W o) (hB : Below W.heap.size W W') : OpG W' o := ⟨RowV.next h.1 hB, h.2.1, RowV.next h.2.2.1 hB, h.2.2.2⟩
theorem OpsR.next {W W' : World} {v : Value} {os : List RW.Opc} (h : OpsR W v os) (hB : Below W.heap.size W W') : OpsR W' v os := ⟨RowV.next h.1 hB, fun o ho => (h.2 o ho).next hB⟩
theorem ops_cell {W : World} {v : Value} {os : List RW.Opc} {j : Nat} {x : RW.Opc} (h : OpsR W v os) (hx : os[j]? = some x) : ∃ g o c, v = .slice (some ⟨g, o, none⟩) os.length c ∧ W.cell? ⟨g, o + j * 4, none⟩ = some (.int .i64 x.kind) ∧ W.cell? ⟨g, o + j * 4 + 1, none⟩ = some x.lv ∧ W.cell? ⟨g, o + j * 4 + 2, none⟩ = some (.int .i64 x.n) ∧ W.cell? ⟨g, o + j * 4 + 3, none⟩ = some x.kv ∧ OpG W x := by
  obtain ⟨⟨a, c, rfl, _, hc⟩, h2⟩ := h
  rcases hc with rfl | ⟨g, o, rfl, hb, hc⟩
  · simp at hx
  · exact ⟨g, o, c, rfl, hc j x hx 0 _ rfl, hc j x hx 1 _ rfl, hc j x hx 2 _ rfl, hc j x hx 3 _ rfl, h2 x (List.mem_of_getElem? hx)⟩
theorem strs_first {W : World} {a : Option Addr} {n c m : Nat} {l : List ByteArray} (h : StrR W (.slice a n c) l) (hm : m ≤ l.length) : StrR W (.slice a m c) (l.take m) := RowV.first h m hm
section
variable {ev : Operand → Value} {o : Oper} {x y : Operand} {w : World}
theorem op_idx_o {b ao i n c : Nat} (ho : o.op = .indexAddr 60 x y) (hx : ev x = .slice (some ⟨b, ao, none⟩) n c) (hy : ev y = .int .i64 i) (hi : i < n) : (execOp ev o).run Tryz.prog w = .ok (.value (.pointer (some ⟨b, ao + i * 4, none⟩))) w := by
  unfold execOp
  rw [ho]
  go_simp
theorem op_fa_o0 {b i : Nat} (ho : o.op = .fieldAddr 62 x 0) (hx : ev x = .pointer (some ⟨b, i, none⟩)) : (execOp ev o).run Tryz.prog w = .ok (.value (.pointer (some ⟨b, i, none⟩))) w := by
  unfold execOp
  rw [ho]
  go_simp
theorem op_fa_o1 {b i : Nat} (ho : o.op = .fieldAddr 62 x 1) (hx : ev x = .pointer (some ⟨b, i, none⟩)) : (execOp ev o).run Tryz.prog w = .ok (.value (.pointer (some ⟨b, i + 1, none⟩))) w := by
  unfold execOp
  rw [ho]
  go_simp
theorem op_fa_o2 {b i : Nat} (ho : o.op = .fieldAddr 62 x 2) (hx : ev x = .pointer (some ⟨b, i, none⟩)) : (execOp ev o).run Tryz.prog w = .ok (.value (.pointer (some ⟨b, i + 2, none⟩))) w := by
  unfold execOp
  rw [ho]
  go_simp
theorem op_fa_o3 {b i : Nat} (ho : o.op = .fieldAddr 62 x 3) (hx : ev x = .pointer (some ⟨b, i, none⟩)) : (execOp ev o).run Tryz.prog w = .ok (.value (.pointer (some ⟨b, i + 3, none⟩))) w := by
  unfold execOp
  rw [ho]
  go_simp
theorem op_leni {a : Option Addr} {n c : Nat} (ho : o.op = .call { callee := .builtin .len, args := #[x], argTypes := #[56] }) (hx : ev x = .slice a n c) : (execOp ev o).run Tryz.prog w = .ok (.value (.int .i64 n)) w := by
  unfold execOp
  rw [ho]
  go_simp
theorem op_min20 {k : Nat} (ho : o.op = .call { callee := .builtin .min, args := #[x, y], argTypes := #[3, 3] }) (hx : ev x = .int .i64 (k : Int)) (hy : ev y = .int .i64 20) : (execOp ev o).run Tryz.prog w = .ok (.value (.int .i64 ((min k 20 : Nat) : Int))) w := by
  unfold execOp
  rw [ho]
  simp only [hx, hy]
  by_cases h : k < 20
  · have e : min (k : Int) 20 = (k : Int) := by omega
    rw [Nat.min_eq_left (by omega)]
    go_simp
    try exact e
  · have e : min (k : Int) 20 = 20 := by omega
    rw [Nat.min_eq_right (by omega)]
    go_simp
    try exact e
theorem op_hi_i {a : Option Addr} {n c m : Nat} (ho : o.op = .slice 56 x none (some y) none) (hx : ev x = .slice a n c) (hy : ev y = .int .i64 (m : Int)) (hm : m ≤ c) : (execOp ev o).run Tryz.prog w = .ok (.value (.slice a m c)) w := by
  unfold execOp
  rw [ho]
  cases a <;> go_simp
end
theorem isl_ld {W : World} {g i : Nat} {a : Option Addr} {n c : Nat} (h : W.cell? ⟨g, i, none⟩ = some (.slice a n c)) : (ldRow 56 (.pointer (some ⟨g, i, none⟩))).run Tryz.prog W = .ok (.slice a n c) W := by
  unfold ldRow
  go_simp
theorem ildJ {W : World} {g i : Nat} {k : Int} (h : W.cell? ⟨g, i, none⟩ = some (.int .i64 k)) : (ldRow 3 (.pointer (some ⟨g, i, none⟩))).run Tryz.prog W = .ok (.int .i64 k) W := by
  unfold ldRow
  go_simp
theorem cf_few : ∀ args w, (callFunc 12 args).run Tryz.prog w = .ok (.enter 12 args) w := fun args w => by go_simp
theorem op_bs0 {ev : Operand → Value} {o : Oper} {w : World} (ho : o.op = .buildSlice 22 0 #[]) : (execOp ev o).run Tryz.prog w = .ok (.value (.slice (some ⟨w.heap.size, 0, none⟩) 0 0)) (w.alloc (.cells #[] 9)) := by
  unfold execOp
  rw [ho]
  go_simp
theorem op_idx_g {ev : Operand → Value} {o : Oper} {x y : Operand} {w : World} {b ao i n c : Nat} (ho : o.op = .indexAddr 48 x y) (hx : ev x = .slice (some ⟨b, ao, none⟩) n c) (hy : ev y = .int .i64 i) (hi : i < n) : (execOp ev o).run Tryz.prog w = .ok (.value (.pointer (some ⟨b, ao + i, none⟩))) w := by
  unfold execOp
  rw [ho]
  go_simp
theorem sl_ld {W : World} {g i : Nat} {a : Option Addr} {n c : Nat} (h : W.cell? ⟨g, i, none⟩ = some (.slice a n c)) : (ldRow 22 (.pointer (some ⟨g, i, none⟩))).run Tryz.prog W = .ok (.slice a n c) W := by
  unfold ldRow
  go_simp
theorem op_leng {ev : Operand → Value} {o : Oper} {x : Operand} {w : World} {a : Option Addr} {n c : Nat} (ho : o.op = .call { callee := .builtin .len, args := #[x], argTypes := #[48] }) (hx : ev x = .slice a n c) : (execOp ev o).run Tryz.prog w = .ok (.value (.int .i64 n)) w := by
  unfold execOp
  rw [ho]
  go_simp
theorem op_eqb {ev : Operand → Value} {o : Oper} {x y : Operand} {w : World} {a b : Int} {r : Bool} (ho : o.op = .binOp .eql 3 x y 3) (hx : ev x = .int .i64 a) (hy : ev y = .int .i64 b) (h : decide (a = b) = r) : (execOp ev o).run Tryz.prog w = .ok (.value (.bool r)) w := by
  unfold execOp
  rw [ho]
  go_simp
  exact h
theorem strs_nil (W : World) (B : Nat) : StrsOwn W B (.slice none 0 0) [] := ⟨rfl, .inl ⟨rfl, rfl⟩⟩
theorem strs_new0 {W : World} {N : Nat} (h : N ≤ W.heap.size) : StrsOwn (W.alloc (.cells #[] 9)) N (.slice (some ⟨W.heap.size, 0, none⟩) 0 0) [] := ⟨rfl, .inr ⟨W.heap.size, 0, #[], rfl, h, alloc_at1 _ _, Nat.le_refl _, by unfold maxLen; omega, rfl, rfl⟩⟩
namespace RW
theorem pick_nat (c : Int) (m : Int) (hm : 1 ≤ m) : ∃ k : Nat, 1 + pickI c m = (k : Int) ∧ 1 ≤ k ∧ (k : Int) ≤ m := by
  have := pickI_bd c m hm
  exact ⟨(1 + pickI c m).toNat, by omega, by omega, by omega⟩
end RW
theorem cf_crash : ∀ args w, (callFunc 31 args).run Tryz.prog w = .ok (.enter 31 args) w := fun args w => by go_simp
end Go.Proofs.YtllbphanfahkkaaGreatDoor

/-
  Package ballot: the keys of a box's map; a box in memory: no condition beyond each theorem's own premises.
-/
import Derived.Laws.StructEq
import Derived.Test.YtcbckcojebanaaaDoorMK
import Derived.Test.YtcbckcojebanaaaDoorBalA
namespace Go.Proofs.YtcbckcojebanaaaDoor
open Go.RowKit
namespace RW
/-- a key: from, kind, height, round -/
abbrev Vk := Int × Int × Int × Int
def kv4 (k : Vk) : Value := .agg #[.int .i64 k.1, .int .i64 k.2.1, .int .i64 k.2.2.1, .int .i64 k.2.2.2]
end RW
theorem eq4 (a b : RW.Vk) (w : World) : (Op.equal 94 (RW.kv4 a) (RW.kv4 b)).run Tryd.prog w = .ok (decide (a = b)) w := by
  obtain ⟨a0, a1, a2, a3⟩ := a
  obtain ⟨b0, b1, b2, b3⟩ := b
  have hu : Tryd.prog.underlying 94 = some (.struct (Tryd.prog.fieldsOf 94)) := by kernel_rfl
  have hst : Tryd.prog.stoodInHeld 94 = false := by kernel_rfl
  have e : ∀ x y : Int, (Op.equalIn 9999 3 (.int .i64 x) (.int .i64 y)).run Tryd.prog w = .ok (x == y) w := fun x y => run_equalIn_int w 9998 3 .i64 .i64 x y Tryd.underlying3
  have hf : (Tryd.prog.fieldsOf 94).toList.map (fun f => (f.name == "_", f.type, f.offset)) = [(false, 3, 0), (false, 3, 1), (false, 3, 2), (false, 3, 3)] := by kernel_rfl
  show (Op.equalIn (9999 + 1) 94 _ _).run Tryd.prog w = _
  unfold RW.kv4
  rw [run_equalIn_struct w 9999 _ _ _ hu hst]
  generalize (Tryd.prog.fieldsOf 94).toList = fs at hf
  rcases fs with _ | ⟨f0, _ | ⟨f1, _ | ⟨f2, _ | ⟨f3, _ | ⟨f4, fl⟩⟩⟩⟩⟩ <;> simp only [List.map_cons, List.map_nil, List.cons.injEq, Prod.mk.injEq, beq_eq_false_iff_ne, and_true, and_false, List.nil_eq, List.cons_ne_nil] at hf
  obtain ⟨⟨n0, t0, o0⟩, ⟨n1, t1, o1⟩, ⟨n2, t2, o2⟩, n3, t3, o3⟩ := hf
  have hp : ∀ (X : Array Value) (i : Nat) (v : Value), X[i]? = some v → (part 3 X i).run Tryd.prog w = .ok v w := fun X i v h => by
    simp [part, isAgg, run_underlying Tryd.underlying3, h]
  have p0 := hp #[.int .i64 a0, .int .i64 a1, .int .i64 a2, .int .i64 a3] 0 (.int .i64 a0) rfl
  have p1 := hp #[.int .i64 a0, .int .i64 a1, .int .i64 a2, .int .i64 a3] 1 (.int .i64 a1) rfl
  have p2 := hp #[.int .i64 a0, .int .i64 a1, .int .i64 a2, .int .i64 a3] 2 (.int .i64 a2) rfl
  have p3 := hp #[.int .i64 a0, .int .i64 a1, .int .i64 a2, .int .i64 a3] 3 (.int .i64 a3) rfl
  have q0 := hp #[.int .i64 b0, .int .i64 b1, .int .i64 b2, .int .i64 b3] 0 (.int .i64 b0) rfl
  have q1 := hp #[.int .i64 b0, .int .i64 b1, .int .i64 b2, .int .i64 b3] 1 (.int .i64 b1) rfl
  have q2 := hp #[.int .i64 b0, .int .i64 b1, .int .i64 b2, .int .i64 b3] 2 (.int .i64 b2) rfl
  have q3 := hp #[.int .i64 b0, .int .i64 b1, .int .i64 b2, .int .i64 b3] 3 (.int .i64 b3) rfl
  show (Op.eqFields 9999 #[.int .i64 a0, .int .i64 a1, .int .i64 a2, .int .i64 a3] #[.int .i64 b0, .int .i64 b1, .int .i64 b2, .int .i64 b3] [f0, f1, f2, f3]).run Tryd.prog w = _
  generalize #[Value.int .i64 a0, Value.int .i64 a1, Value.int .i64 a2, Value.int .i64 a3] = X at p0 p1 p2 p3 ⊢
  generalize #[Value.int .i64 b0, Value.int .i64 b1, Value.int .i64 b2, Value.int .i64 b3] = Y at q0 q1 q2 q3 ⊢
  simp only [Op.eqFields, n0, n1, n2, n3, t0, t1, t2, t3, o0, o1, o2, o3, ne_eq, not_false_eq_true, if_true, Sem.run_bind, p0, q0, Result.andThen_ok, e]
  by_cases g0 : a0 = b0
  · by_cases g1 : a1 = b1
    · by_cases g2 : a2 = b2
      · by_cases g3 : a3 = b3
        · simp [g0, g1, g2, g3, p1, p2, p3, q1, q2, q3, e]
        · simp [g0, g1, g2, g3, p1, p2, p3, q1, q2, q3, e]
      · simp [g0, g1, g2, p1, p2, q1, q2, e]
    · simp [g0, g1, p1, q1, e]
  · simp [g0]
theorem check4 (e : Bool) (k : RW.Vk) (w : World) : (Instr.checkKey e 10000 94 (RW.kv4 k)).run Tryd.prog w = .ok () w := by
  obtain ⟨a0, a1, a2, a3⟩ := k
  show (Instr.checkKey e (9999 + 1) 94 (.agg #[.int .i64 a0, .int .i64 a1, .int .i64 a2, .int .i64 a3])).run Tryd.prog w = _
  have hi : ∀ (x : Int), (Instr.checkKey e 9999 3 (.int .i64 x)).run Tryd.prog w = .ok () w := fun x => by
    show (Instr.checkKey e (9998 + 1) 3 (.int .i64 x)).run Tryd.prog w = .ok () w
    unfold Instr.checkKey
    simp [run_underlying Tryd.underlying3]
  have hp : ∀ (X : Array Value) (i : Nat) (v : Value), X[i]? = some v → (part 3 X i).run Tryd.prog w = .ok v w := fun X i v h => by
    simp [part, isAgg, run_underlying Tryd.underlying3, h]
  have p0 := hp #[.int .i64 a0, .int .i64 a1, .int .i64 a2, .int .i64 a3] 0 (.int .i64 a0) rfl
  have p1 := hp #[.int .i64 a0, .int .i64 a1, .int .i64 a2, .int .i64 a3] 1 (.int .i64 a1) rfl
  have p2 := hp #[.int .i64 a0, .int .i64 a1, .int .i64 a2, .int .i64 a3] 2 (.int .i64 a2) rfl
  have p3 := hp #[.int .i64 a0, .int .i64 a1, .int .i64 a2, .int .i64 a3] 3 (.int .i64 a3) rfl
  generalize #[Value.int .i64 a0, Value.int .i64 a1, Value.int .i64 a2, Value.int .i64 a3] = X at p0 p1 p2 p3 ⊢
  unfold Instr.checkKey
  simp [run_underlying Tryd.underlying94, p0, p1, p2, p3, hi]
theorem key4 : KM.Key Tryd.prog 94 RW.kv4 := by
  refine KM.ask_key Tryd.underlying94 (fun a v => by cases v <;> rfl) eq4 check4 (fun k => by simp [RW.kv4, Instr.sameBits])
/-- a box in memory: its struct, its map -/
structure BoxAt (W : World) (bx mb : Nat) (n : Int) (L : List (RW.Vk × ByteArray)) : Prop where
  row : W.heap[bx]? = some (.cells #[.int .i64 n, .map (some mb)] 90 (0, 0))
  own : KM.OwnM RW.kv4 W mb (L.map fun x => (x.1, .string x.2))
theorem BoxAt.ne {W : World} {bx mb : Nat} {n : Int} {L : List (RW.Vk × ByteArray)} (h : BoxAt W bx mb n L) : bx ≠ mb := by
  rintro rfl
  obtain ⟨es, c, h1, _⟩ := h.own
  rw [h.row] at h1
  cases h1
theorem BoxAt.lt {W : World} {bx mb : Nat} {n : Int} {L : List (RW.Vk × ByteArray)} (h : BoxAt W bx mb n L) : bx < W.heap.size ∧ mb < W.heap.size := ⟨(Array.getElem?_eq_some_iff.1 h.row).1, h.own.lt⟩
theorem BoxAt.keep {W W' : World} {bx mb : Nat} {n : Int} {L : List (RW.Vk × ByteArray)} (h : BoxAt W bx mb n L) (h1 : W'.heap[bx]? = W.heap[bx]?) (h2 : W'.heap[mb]? = W.heap[mb]?) : BoxAt W' bx mb n L := ⟨h1.trans h.row, h.own.keep h2⟩
theorem BoxAt.next {W W' : World} {bx mb : Nat} {n : Int} {L : List (RW.Vk × ByteArray)} (h : BoxAt W bx mb n L) (hB : Below W.heap.size W W') : BoxAt W' bx mb n L := h.keep (hB.block _ h.lt.1) (hB.block _ h.lt.2)
end Go.Proofs.YtcbckcojebanaaaDoor

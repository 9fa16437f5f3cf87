/-
  Lists of strings that a call makes itself, by appending; what single operations on them do: no condition beyond each theorem's own premises.
-/
import Derived.Test.YtcbckcojebanaaaDoorMZ1
import Derived.Test.YtcbckcojebanaaaDoorRs3
import Derived.Laws.StructEq
import Derived.Test.YtcbckcojebanaaaDoorMK
namespace Go.Proofs.YtcbckcojebanaaaDoor
open Go.RowKit RG
theorem info_str : (Tryd.prog.info? 9).map (fun i => (i.zero, i.size, i.bytes)) = some (some (.string ⟨#[]⟩), 1, 16) := by kernel_rfl
/-- a string is built and appended to a row of the call's own -/
theorem app_str {B : Nat} {W : World} {v : Value} {n : Nat} {xs : List Value} (hown : W.ownsRow B 9 1 v n xs) (hs : B ≤ W.heap.size) (hn : n ≤ 1000000) (x : ByteArray) :
    ∃ v' w3, (Builtin.append_ #[22, 22] 22 #[v, .slice (some ⟨W.heap.size, 0, none⟩) 1 1]).run Tryd.prog (W.alloc (.cells #[.string x] 9)) = .ok v' w3 ∧
      w3.ownsRow B 9 1 v' (n + 1) (xs ++ [.string x]) ∧ Below B W w3 ∧ (W.alloc (.cells #[.string x] 9)).grownBy w3 v.ownBlock := by
  obtain ⟨i0, hi, hz0, hz1, hz2⟩ := info_parts info_str
  obtain ⟨v', w3, hr, h2, h3, _⟩ := run_append_own (P := Tryd.prog) (W.alloc (.cells #[.string x] 9)) B 22 22 9 i0 (.string ⟨#[]⟩) 1 16 Tryd.underlying22 hi hz0 hz1 hz2 rfl (by decide) v n xs (hown.alloc _)
    ⟨W.heap.size, 0, none⟩ 1 1 [.string x] rfl (cell_one_new W _ _) (by intro u hu; simp at hu; subst hu; rfl) (by unfold maxLen; omega) (by omega) (by simp; exact Nat.le_succ_of_le hs)
  exact ⟨v', w3, hr, h2, (below_app (o := .cells #[.string x] 9) (Below.refl B W) hs hown h3).1, h3⟩
/-- a row of the call's own is a list of strings -/
theorem strs_own {W : World} {B : Nat} {v : Value} {k : Nat} {l : List ByteArray} (h : W.ownsRow B 9 1 v k (l.map .string)) : StrsV W v l := by
  obtain ⟨h1, h2⟩ := h
  rw [List.length_map, Nat.mul_one] at h1
  subst h1
  rcases h2 with ⟨rfl, h0⟩ | ⟨g, cap, cur, rfl, _, hg, hc, _, _, ht⟩
  · have hl := List.length_eq_zero_iff.1 h0
    subst hl
    exact ⟨none, 0, rfl, Nat.le_refl _, .inl rfl⟩
  · refine ⟨some ⟨g, 0, none⟩, cap, rfl, hc, .inr ⟨g, 0, rfl, (Array.getElem?_eq_some_iff.1 hg).1, fun i hi => ?_⟩⟩
    rw [cell_at hg, Nat.zero_add]
    have h3 : (cur.toList.take (l.length * 1))[i]? = some (.string (l.getD i ⟨#[]⟩)) := by
      rw [ht, List.getElem?_map, List.getElem?_eq_getElem hi, List.getD, List.getElem?_eq_getElem hi]
      rfl
    rw [List.getElem?_take] at h3
    split at h3
    · rw [← Array.getElem?_toList]; exact h3
    · cases h3
section
variable {ev : Operand → Value} {o : Oper} {x y : Operand} {w : World}
theorem op_mv {v : Value} (ho : o.op = .move x) (hx : ev x = v) : (execOp ev o).run Tryd.prog w = .ok (.value v) w := by
  unfold execOp
  rw [ho]
  simp only [hx]
  go_simp
theorem op_load_sl {a : Addr} {p : Option Addr} {n c : Nat} (ho : o.op = .load 22 x) (hx : ev x = .pointer (some a)) (hc : w.cell? a = some (.slice p n c)) : (execOp ev o).run Tryd.prog w = .ok (.value (.slice p n c)) w := by
  unfold execOp
  rw [ho]
  go_simp
theorem op_build_s {v : ByteArray} (ho : o.op = .buildSlice 22 1 #[(0, x)]) (hx : ev x = .string v) : (execOp ev o).run Tryd.prog w = .ok (.value (.slice (some ⟨w.heap.size, 0, none⟩) 1 1)) (w.alloc (.cells #[.string v] 9)) := by
  unfold execOp
  rw [ho]
  go_simp
theorem op_app {t : TypeId} {v s v' : Value} {w' : World} (ho : o.op = .call { callee := .builtin .append, args := #[x, y], argTypes := #[t, t] }) (hx : ev x = v) (hy : ev y = s) (hr : (Builtin.append_ #[t, t] o.type #[v, s]).run Tryd.prog w = .ok v' w') :
    (execOp ev o).run Tryd.prog w = .ok (.value v') w' := by
  unfold execOp
  simp only [ho, resolve, invoke, builtin, Sem.run_bind, Sem.run_pure, Result.andThen_ok, List.map_toArray, List.map_cons, List.map_nil, hx, hy, hr]
theorem op_store_sl {b i : Nat} {p : Option Addr} {n c : Nat} {u : Value} (ho : o.op = .store 22 x y) (hx : ev x = .pointer (some ⟨b, i, none⟩)) (hy : ev y = .slice p n c) (hc : w.cell? ⟨b, i, none⟩ = some u) (hf : w.frozen? ⟨b, i, none⟩ = false) :
    (execOp ev o).run Tryd.prog w = .ok .skip (w.setCell ⟨b, i, none⟩ (.slice p n c)) := by
  unfold execOp
  rw [ho]
  go_simp
end
/-- five worlds, one behind the other -/
def st5 (W0 W1 W2 W3 W4 : World) : Nat → World → Prop
  | 0, w => w = W0
  | 1, w => w = W1
  | 2, w => w = W2
  | 3, w => w = W3
  | _, w => w = W4
theorem st5_two {W0 W1 W2 W3 W4 w : World} {j : Nat} (h : st5 W0 W1 W2 W3 W4 j w) (hj : j ≤ 2) : w = W0 ∨ w = W1 ∨ w = W2 := by
  have : j = 0 ∨ j = 1 ∨ j = 2 := by omega
  rcases this with rfl | rfl | rfl
  · exact .inl h
  · exact .inr (.inl h)
  · exact .inr (.inr h)
end Go.Proofs.YtcbckcojebanaaaDoor

/-
  Package ballot: the keys of a box's map; a box in memory: no condition beyond each theorem's own premises.
-/
namespace Go.Proofs.YtcbckcojebanaaaDoor
open Go.RowKit
namespace RW
/-- a key: from, kind, height, round -/
abbrev Vk := Int × Int × Int × Int
def kv4 (k : Vk) : Value := .agg #[.int .i64 k.1, .int .i64 k.2.1, .int .i64 k.2.2.1, .int .i64 k.2.2.2]
end RW
theorem eq4 (a b : RW.Vk) (w : World) : (Op.equal 94 (RW.kv4 a) (RW.kv4 b)).run Tryd.prog w = .ok (decide (a = b)) w := by
  obtain ⟨a0, a1, a2, a3⟩ := a
  obtain ⟨b0, b1, b2, b3⟩ := b
  have hu : Tryd.prog.underlying 94 = some (.struct (Tryd.prog.fieldsOf 94)) := by kernel_rfl
  have hst : Tryd.prog.stoodInHeld 94 = false := by kernel_rfl
  have e : ∀ x y : Int, (Op.equalIn 9999 3 (.int .i64 x) (.int .i64 y)).run Tryd.prog w = .ok (x == y) w := fun x y => run_equalIn_int w 9998 3 .i64 .i64 x y Tryd.underlying3
  have hf : (Tryd.prog.fieldsOf 94).toList.map (fun f => (f.name == "_", f.type, f.offset)) = [(false, 3, 0), (false, 3, 1), (false, 3, 2), (false, 3, 3)] := by kernel_rfl
  show (Op.equalIn (9999 + 1) 94 _ _).run Tryd.prog w = _
  unfold RW.kv4
  rw [run_equalIn_struct w 9999 _ _ _ hu hst]
  generalize (Tryd.prog.fieldsOf 94).toList = fs at hf
  rcases fs with _ | ⟨f0, _ | ⟨f1, _ | ⟨f2, _ | ⟨f3, _ | ⟨f4, fl⟩⟩⟩⟩⟩ <;> simp only [List.map_cons, List.map_nil, List.cons.injEq, Prod.mk.injEq, beq_eq_false_iff_ne, and_true, and_false, List.nil_eq, List.cons_ne_nil] at hf
  obtain ⟨⟨n0, t0, o0⟩, ⟨n1, t1, o1⟩, ⟨n2, t2, o2⟩, n3, t3, o3⟩ := hf
  have hp : ∀ (X : Array Value) (i : Nat) (v : Value), X[i]? = some v → (part 3 X i).run Tryd.prog w = .ok v w := fun X i v h => by
    simp [part, isAgg, run_underlying Tryd.underlying3, h]
  have p0 := hp #[.int .i64 a0, .int .i64 a1, .int .i64 a2, .int .i64 a3] 0 (.int .i64 a0) rfl
  have p1 := hp #[.int .i64 a0, .int .i64 a1, .int .i64 a2, .int .i64 a3] 1 (.int .i64 a1) rfl
  have p2 := hp #[.int .i64 a0, .int .i64 a1, .int .i64 a2, .int .i64 a3] 2 (.int .i64 a2) rfl
  have p3 := hp #[.int .i64 a0, .int .i64 a1, .int .i64 a2, .int .i64 a3] 3 (.int .i64 a3) rfl
  have q0 := hp #[.int .i64 b0, .int .i64 b1, .int .i64 b2, .int .i64 b3] 0 (.int .i64 b0) rfl
  have q1 := hp #[.int .i64 b0, .int .i64 b1, .int .i64 b2, .int .i64 b3] 1 (.int .i64 b1) rfl
  have q2 := hp #[.int .i64 b0, .int .i64 b1, .int .i64 b2, .int .i64 b3] 2 (.int .i64 b2) rfl
  have q3 := hp #[.int .i64 b0, .int .i64 b1, .int .i64 b2, .int .i64 b3] 3 (.int .i64 b3) rfl
  show (Op.eqFields 9999 #[.int .i64 a0, .int .i64 a1, .int .i64 a2, .int .i64 a3] #[.int .i64 b0, .int .i64 b1, .int .i64 b2, .int .i64 b3] [f0, f1, f2, f3]).run Tryd.prog w = _
  generalize #[Value.int .i64 a0, Value.int .i64 a1, Value.int .i64 a2, Value.int .i64 a3] = X at p0 p1 p2 p3 ⊢
  generalize #[Value.int .i64 b0, Value.int .i64 b1, Value.int .i64 b2, Value.int .i64 b3] = Y at q0 q1 q2 q3 ⊢
  simp only [Op.eqFields, n0, n1, n2, n3, t0, t1, t2, t3, o0, o1, o2, o3, ne_eq, not_false_eq_true, if_true, Sem.run_bind, p0, q0, Result.andThen_ok, e]
  by_cases g0 : a0 = b0
  · by_cases g1 : a1 = b1
    · by_cases g2 : a2 = b2
      · by_cases g3 : a3 = b3
        · simp [g0, g1, g2, g3, p1, p2, p3, q1, q2, q3, e]
        · simp [g0, g1, g2, g3, p1, p2, p3, q1, q2, q3, e]
      · simp [g0, g1, g2, p1, p2, q1, q2, e]
    · simp [g0, g1, p1, q1, e]
  · simp [g0]
theorem check4 (e : Bool) (k : RW.Vk) (w : World) : (Instr.checkKey e 10000 94 (RW.kv4 k)).run Tryd.prog w = .ok () w := by
  obtain ⟨a0, a1, a2, a3⟩ := k
  show (Instr.checkKey e (9999 + 1) 94 (.agg #[.int .i64 a0, .int .i64 a1, .int .i64 a2, .int .i64 a3])).run Tryd.prog w = _
  have hi : ∀ (x : Int), (Instr.checkKey e 9999 3 (.int .i64 x)).run Tryd.prog w = .ok () w := fun x => by
    show (Instr.checkKey e (9998 + 1) 3 (.int .i64 x)).run Tryd.prog w = .ok () w
    unfold Instr.checkKey
    simp [run_underlying Tryd.underlying3]
  have hp : ∀ (X : Array Value) (i : Nat) (v : Value), X[i]? = some v → (part 3 X i).run Tryd.prog w = .ok v w := fun X i v h => by
    simp [part, isAgg, run_underlying Tryd.underlying3, h]
  have p0 := hp #[.int .i64 a0, .int .i64 a1, .int .i64 a2, .int .i64 a3] 0 (.int .i64 a0) rfl
  have p1 := hp #[.int .i64 a0, .int .i64 a1, .int .i64 a2, .int .i64 a3] 1 (.int .i64 a1) rfl
  have p2 := hp #[.int .i64 a0, .int .i64 a1, .int .i64 a2, .int .i64 a3] 2 (.int .i64 a2) rfl
  have p3 := hp #[.int .i64 a0, .int .i64 a1, .int .i64 a2, .int .i64 a3] 3 (.int .i64 a3) rfl
  generalize #[Value.int .i64 a0, Value.int .i64 a1, Value.int .i64 a2, Value.int .i64 a3] = X at p0 p1 p2 p3 ⊢
  unfold Instr.checkKey
  simp [run_underlying Tryd.underlying94, p0, p1, p2, p3, hi]
theorem key4 : KM.Key Tryd.prog 94 RW.kv4 := by
  refine KM.ask_key Tryd.underlying94 (fun a v => by cases v <;> rfl) eq4 check4 (fun k => by simp [RW.kv4, Instr.sameBits])
/-- a box in memory: its struct, its map -/
structure BoxAt (W : World) (bx mb : Nat) (n : Int) (L : List (RW.Vk × ByteArray)) : Prop where
  row : W.heap[bx]? = some (.cells #[.int .i64 n, .map (some mb)] 90 (0, 0))
  own : KM.OwnM RW.kv4 W mb (L.map fun x => (x.1, .string x.2))
theorem BoxAt.ne {W : World} {bx mb : Nat} {n : Int} {L : List (RW.Vk × ByteArray)} (h : BoxAt W bx mb n L) : bx ≠ mb := by
  rintro rfl
  obtain ⟨es, c, h1, _⟩ := h.own
  rw [h.row] at h1
  cases h1
theorem BoxAt.lt {W : World} {bx mb : Nat} {n : Int} {L : List (RW.Vk × ByteArray)} (h : BoxAt W bx mb n L) : bx < W.heap.size ∧ mb < W.heap.size := ⟨(Array.getElem?_eq_some_iff.1 h.row).1, h.own.lt⟩
theorem BoxAt.keep {W W' : World} {bx mb : Nat} {n : Int} {L : List (RW.Vk × ByteArray)} (h : BoxAt W bx mb n L) (h1 : W'.heap[bx]? = W.heap[bx]?) (h2 : W'.heap[mb]? = W.heap[mb]?) : BoxAt W' bx mb n L := ⟨h1.trans h.row, h.own.keep h2⟩
theorem BoxAt.next {W W' : World} {bx mb : Nat} {n : Int} {L : List (RW.Vk × ByteArray)} (h : BoxAt W bx mb n L) (hB : Below W.heap.size W W') : BoxAt W' bx mb n L := h.keep (hB.block _ h.lt.1) (hB.block _ h.lt.2)
end Go.Proofs.YtcbckcojebanaaaDoor

/-
  Package ballot: NewBox; what single operations on boxes do: no condition beyond each theorem's own premises.
-/
namespace Go.Proofs.YtcbckcojebanaaaDoor
open Go.RowKit RG
section
variable {ev : Operand → Value} {o : Oper} {x y z : Operand} {w : World}
theorem op_not {p : Bool} (ho : o.op = .unOp .not 4 x) (hx : ev x = .bool p) : (execOp ev o).run Tryd.prog w = .ok (.value (.bool (!p))) w := by
  unfold execOp
  rw [ho]
  go_simp
theorem op_nilc {a : Addr} (ho : o.op = .nilCheck x) (hx : ev x = .pointer (some a)) : (execOp ev o).run Tryd.prog w = .ok (.value (.pointer (some a))) w := by
  unfold execOp
  rw [ho]
  go_simp
theorem op_fab0 {b : Nat} (ho : o.op = .fieldAddr 90 x 0) (hx : ev x = .pointer (some ⟨b, 0, none⟩)) : (execOp ev o).run Tryd.prog w = .ok (.value (.pointer (some ⟨b, 0, none⟩))) w := by
  unfold execOp
  rw [ho]
  go_simp
theorem op_fab1 {b : Nat} (ho : o.op = .fieldAddr 90 x 1) (hx : ev x = .pointer (some ⟨b, 0, none⟩)) : (execOp ev o).run Tryd.prog w = .ok (.value (.pointer (some ⟨b, 1, none⟩))) w := by
  unfold execOp
  rw [ho]
  go_simp
theorem op_load_map {a : Addr} {m : Option Nat} (ho : o.op = .load 88 x) (hx : ev x = .pointer (some a)) (hc : w.cell? a = some (.map m)) : (execOp ev o).run Tryd.prog w = .ok (.value (.map m)) w := by
  unfold execOp
  rw [ho]
  go_simp
theorem op_load_agg {T : TypeId} {b : Nat} {cs : Array Value} (ho : o.op = .load T x) (hx : ev x = .pointer (some ⟨b, 0, none⟩)) (hc : (ldMsg T (.pointer (some ⟨b, 0, none⟩))).run Tryd.prog w = .ok (.agg cs) w) : (execOp ev o).run Tryd.prog w = .ok (.value (.agg cs)) w := by
  unfold execOp
  simp only [ho, hx, Sem.run_bind]
  rw [show Instr.loadAt T (.pointer (some ⟨b, 0, none⟩)) = ldMsg T (.pointer (some ⟨b, 0, none⟩)) from rfl, hc]
  rfl
theorem op_lookup {T : TypeId} {m k v : Value} {c : Bool} (ho : o.op = .lookup T x y c) (hx : ev x = m) (hy : ev y = k) (hr : (Instr.lookup T m k c).run Tryd.prog w = .ok v w) : (execOp ev o).run Tryd.prog w = .ok (.value v) w := by
  unfold execOp
  simp only [ho, hx, hy, Sem.run_bind, hr]
  rfl
theorem op_ext {i : Nat} {vs : Array Value} {v : Value} (ho : o.op = .extract x i) (hx : ev x = .tuple vs) (hv : vs[i]? = some v) : (execOp ev o).run Tryd.prog w = .ok (.value v) w := by
  unfold execOp
  rw [ho]
  go_simp
theorem op_asg {v : Value} (ho : o.op = .assign x) (hx : ev x = v) : (execOp ev o).run Tryd.prog w = .ok (.value v) w := by
  unfold execOp
  rw [ho]
  simp only [hx]
  go_simp
theorem op_upd {T : TypeId} {m k v : Value} {w' : World} (ho : o.op = .mapUpdate T x y z) (hx : ev x = m) (hy : ev y = k) (hz : ev z = v) (hr : (Instr.mapUpdate T m k v).run Tryd.prog w = .ok () w') : (execOp ev o).run Tryd.prog w = .ok .skip w' := by
  unfold execOp
  simp only [ho, hx, hy, hz, Sem.run_bind, hr]
  rfl
theorem op_eqnil {a : Addr} (ho : o.op = .binOp .eql 44 x y 44) (hx : ev x = .pointer (some a)) (hy : ev y = .pointer none) : (execOp ev o).run Tryd.prog w = .ok (.value (.bool false)) w := by
  unfold execOp
  rw [ho]
  simp only [hx, hy]
  go_simp
end
theorem newbox_no (n : Int) (hn : ¬ (1 ≤ n ∧ n ≤ 7)) (w : World) : Calls Tryd.prog 28 #[.int .i64 n] w fun e w' => e = .returned (.pointer none) ∧ w = w' := by
  have hQ := fun W => quorum_any n W
  have hq : RW.quorum n = 0 := by rw [RW.quorum, if_neg hn]
  rw [hq] at hQ
  have hQH := hide hQ
  clear hQ hq hn
  go_enter Tryd.func28, Tryd.ntmps28
  go_wp2_with (go_at_call 20; refine (hQH.out _).mono ?_; rintro e w' ⟨rfl, rfl⟩)
  go_ret
  exact ⟨rfl, rfl⟩
theorem newbox_yes (n : Int) (hn : 1 ≤ n ∧ n ≤ 7) (w : World) : Calls Tryd.prog 28 #[.int .i64 n] w fun e w' => e = .returned (.pointer (some ⟨w.heap.size + 1, 0, none⟩)) ∧ BoxAt w' (w.heap.size + 1) w.heap.size n [] ∧ Below w.heap.size w w' := by
  have hQ := fun W => quorum_any n W
  obtain ⟨q, hq⟩ : ∃ q, q = RW.quorum n := ⟨_, rfl⟩
  have hq0 : (q == 0) = false := by rw [hq, RW.quorum, if_pos hn]; simp; omega
  rw [← hq] at hQ
  have hQH := hide hQ
  clear hQ hq hn
  have hmk : ∀ W, (Instr.makeMap 88 none).run Tryd.prog W = .ok (.map (some W.heap.size)) (W.alloc (.map #[] 0)) := fun _ => rfl
  go_enter Tryd.func28, Tryd.ntmps28
  go_wp2_with (go_at_call 20; refine (hQH.out _).mono ?_; rintro e w' ⟨rfl, rfl⟩)
  go_ret
  refine ⟨rfl, ⟨?_, ?_⟩, ?_⟩
  · exact heap_new_at (by simp)
  · exact (KM.OwnM.made w).keep (Below.heap_alloc _ _ _ (by simp))
  · exact ((Below.refl _ _).alloc (Nat.le_refl _) _).alloc (by simp) _
end Go.Proofs.YtcbckcojebanaaaDoor

/-
  Package ballot: a box's counts and Count: what they return; only new memory is written.
-/
namespace Go.Proofs.YtcbckcojebanaaaDoor
open Go.RowKit RG
namespace RW
/-- the vote under a key -/
def voteAt (L : List (Vk × ByteArray)) (k : Vk) : Option ByteArray := (L.find? fun x => decide (x.1 = k)).map (·.2)
theorem get_vote (k : Vk) (L : List (Vk × ByteArray)) : KM.get k (L.map fun x => (x.1, Value.string x.2)) = (voteAt L k).map Value.string := by
  induction L with
  | nil => rfl
  | cons x L ih =>
    rw [List.map_cons, KM.get_cons]
    unfold voteAt
    rw [List.find?_cons]
    by_cases h : k = x.1
    · rw [if_pos h, decide_eq_true h.symm]; rfl
    · rw [if_neg h, decide_eq_false (Ne.symm h)]; exact ih
/-- how many of the first j sites voted for d -/
def cnt (L : List (Vk × ByteArray)) (kd h r : Int) (d : ByteArray) : Nat → Nat
  | 0 => 0
  | j + 1 => cnt L kd h r d j + if voteAt L ((j : Int), kd, h, r) = some d then 1 else 0
theorem cnt_le (L : List (Vk × ByteArray)) (kd h r : Int) (d : ByteArray) : ∀ j, cnt L kd h r d j ≤ j
  | 0 => Nat.le_refl _
  | j + 1 => by
    have := cnt_le L kd h r d j
    rw [cnt]
    split <;> omega
/-- a count as a map's element: none where it is nought -/
def cval : Nat → Option Value
  | 0 => none
  | c + 1 => some (.int .i64 ((c + 1 : Nat) : Int))
theorem cval_get (c : Nat) : (cval c).getD (.int .i64 0) = .int .i64 (c : Int) := by cases c <;> rfl
/-- the map of counts of the first j sites -/
def CntM (L : List (Vk × ByteArray)) (kd h r : Int) (j : Nat) (M : List (ByteArray × Value)) : Prop := ∀ d, KM.get d M = cval (cnt L kd h r d j)
theorem CntM.zero (L : List (Vk × ByteArray)) (kd h r : Int) : CntM L kd h r 0 [] := fun _ => rfl
theorem CntM.none {L : List (Vk × ByteArray)} {kd h r : Int} {j : Nat} {M : List (ByteArray × Value)} (hM : CntM L kd h r j M) (hv : voteAt L ((j : Int), kd, h, r) = none) : CntM L kd h r (j + 1) M := fun d => by
  rw [hM d, cnt, hv, if_neg (by simp), Nat.add_zero]
theorem CntM.some {L : List (Vk × ByteArray)} {kd h r : Int} {j : Nat} {M : List (ByteArray × Value)} (hM : CntM L kd h r j M) {e : ByteArray} (hv : voteAt L ((j : Int), kd, h, r) = some e) :
    CntM L kd h r (j + 1) (KM.put e (.int .i64 ((cnt L kd h r e j : Int) + 1)) M) := fun d => by
  rw [KM.get_put, cnt, hv]
  by_cases hd : d = e
  · subst hd
    rw [if_pos rfl, if_pos rfl]
    rfl
  · rw [if_neg hd, if_neg (fun g => hd (Option.some.inj g).symm), hM d, Nat.add_zero]
def strK (x : ByteArray) : Value := .string x
end RW
theorem strKey : KM.Key Tryd.prog 9 RW.strK := KM.str_key Tryd.underlying9
/-- what counts answers: a new map -/
def CountsPost (L : List (RW.Vk × ByteArray)) (kd h r : Int) (N : Nat) (w : World) (e : Ending) (w' : World) : Prop :=
  ∃ M, e = .returned (.map (some w.heap.size)) ∧ KM.OwnM RW.strK w' w.heap.size M ∧ Below w.heap.size w w' ∧ RW.CntM L kd h r N M
set_option maxRecDepth 100000 in
set_option maxHeartbeats 4000000 in
theorem counts_any (bx mb N : Nat) (L : List (RW.Vk × ByteArray)) (w : World) (hb : BoxAt w bx mb N L) (hN : N ≤ 7) (kd h r : Int) :
    Calls Tryd.prog 60 #[.pointer (some ⟨bx, 0, none⟩), .int .i64 kd, .int .i64 h, .int .i64 r] w (CountsPost L kd h r N w) := by
  have hlt := hb.lt
  have hmk : ∀ W, (Instr.makeMap 96 none).run Tryd.prog W = .ok (.map (some W.heap.size)) (W.alloc (.map #[] 0)) := fun _ => rfl
  have hst : KM.OwnM RW.strK (w.alloc (.map #[] 0)) w.heap.size [] := KM.OwnM.made w
  obtain ⟨B, hB⟩ : ∃ B, B = w.heap.size := ⟨_, rfl⟩
  have hB0 := (Below.refl w.heap.size w).alloc (Nat.le_refl _) (.map #[] 0)
  rw [← hB] at hlt hst hB0
  have hbH := hide hb
  have hltH := hide hlt
  have hstH := hide hst
  have hB0H := hide hB0
  have hBH := hide hB
  clear hb hlt hst hB0 hB
  go_enter Tryd.func60, Tryd.ntmps60
  go_wp2
  rw [← hBH.out]
  go_loopw [10] (fun i wr => ∃ (j : Nat) (M : List (ByteArray × Value)), i = .int .i64 j ∧ j ≤ N ∧ KM.OwnM RW.strK wr B M ∧ Below B w wr ∧ RW.CntM L kd h r j M) (fun i _ => N - (intOf i).toNat)
  case atStart => exact ⟨0, [], rfl, Nat.zero_le _, hstH.out, hB0H.out, RW.CntM.zero L kd h r⟩
  case round =>
    obtain ⟨j, M, rfl, hj, hown, hBw, hM⟩ := hrel
    have hbr : BoxAt wr bx mb N L := hbH.out.keep (hBw.block _ hltH.out.1) (hBw.block _ hltH.out.2)
    have c0 : wr.cell? ⟨bx, 0, none⟩ = some (.int .i64 N) := (cell_at hbr.row 0).trans rfl
    have c1 : wr.cell? ⟨bx, 1, none⟩ = some (.map (some mb)) := (cell_at hbr.row 1).trans rfl
    by_cases hjN : j < N
    · have hlk := KM.OwnM.lookup_ok hbr.own key4 Tryd.underlying88 (z := .string ⟨#[]⟩) (by go_simp) ((j : Int), kd, h, r)
      rw [RW.get_vote] at hlk
      cases hv : RW.voteAt L ((j : Int), kd, h, r) with
      | none =>
        rw [hv] at hlk
        have hlk' : (Instr.lookup 88 (.map (some mb)) (.agg #[.int .i64 j, .int .i64 kd, .int .i64 h, .int .i64 r]) true).run Tryd.prog wr = .ok (.tuple #[.string ⟨#[]⟩, .bool false]) wr := hlk
        have hownH := hide hown
        have hBwH := hide hBw
        have hMH := hide (hM.none hv)
        clear hlk hown hBw hM hbr hv
        go_wp2
        go_roundw
        case rel => exact ⟨j + 1, M, by go_num, by omega, hownH.out, hBwH.out, hMH.out⟩
        case measure => simp [intOf]; omega
      | some e =>
        rw [hv] at hlk
        have hlk' : (Instr.lookup 88 (.map (some mb)) (.agg #[.int .i64 j, .int .i64 kd, .int .i64 h, .int .i64 r]) true).run Tryd.prog wr = .ok (.tuple #[.string e, .bool true]) wr := hlk
        have hl2 := KM.OwnM.lookup hown strKey Tryd.underlying96 (z := .int .i64 0) (by go_simp) e
        rw [hM e, RW.cval_get] at hl2
        obtain ⟨c, hc⟩ : ∃ c, c = RW.cnt L kd h r e j := ⟨_, rfl⟩
        have hM2 := hM.some hv
        have hcb : c ≤ 7 := by rw [hc]; have := RW.cnt_le L kd h r e j; omega
        rw [← hc] at hl2 hM2
        have hl2' : (Instr.lookup 96 (.map (some B)) (.string e) false).run Tryd.prog wr = .ok (.int .i64 c) wr := hl2
        obtain ⟨w6, hup, hown6, h1, h2, h3, h4, h5⟩ := KM.OwnM.update hown strKey Tryd.underlying96 e (.int .i64 ((c : Int) + 1))
        have hup' : (Instr.mapUpdate 96 (.map (some B)) (.string e) (.int .i64 ((c : Int) + 1))).run Tryd.prog wr = .ok () w6 := hup
        have hB6 : Below B w w6 := ⟨h1.trans hBw.os, h2.trans hBw.tape, h3.trans hBw.output, by rw [h4]; exact hBw.size, fun k hk => (h5 k (by omega)).trans (hBw.block k hk)⟩
        have hown6H := hide hown6
        have hB6H := hide hB6
        have hM2H := hide hM2
        clear hlk hown hBw hM hbr hv hl2 hup h1 h2 h3 h4 h5 hB6 hM2 hown6 hc
        go_wp2
        go_roundw
        case rel => exact ⟨j + 1, _, by go_num, by omega, hown6H.out, hB6H.out, hM2H.out⟩
        case measure => simp [intOf]; omega
    · obtain rfl : j = N := by omega
      have hownH := hide hown
      have hBwH := hide hBw
      have hMH := hide hM
      clear hown hBw hM hbr
      go_wp2
      go_ret
      exact ⟨M, by rw [hBH.out] <;> rfl, by rw [← hBH.out]; exact hownH.out, by rw [← hBH.out]; exact hBwH.out, hMH.out⟩
theorem counts_nil (L : List (RW.Vk × ByteArray)) (w : World) (kd h r : Int) :
    Calls Tryd.prog 60 #[.pointer none, .int .i64 kd, .int .i64 h, .int .i64 r] w (CountsPost L kd h r 0 w) := by
  have hmk : ∀ W, (Instr.makeMap 96 none).run Tryd.prog W = .ok (.map (some W.heap.size)) (W.alloc (.map #[] 0)) := fun _ => rfl
  have hst : KM.OwnM RW.strK (w.alloc (.map #[] 0)) w.heap.size [] := KM.OwnM.made w
  have hstH := hide hst
  clear hst
  go_enter Tryd.func60, Tryd.ntmps60
  go_wp2
  refine wp_loop_rounds 1 ?_
  rw [rounds_succ]
  go_wp2
  go_ret
  exact ⟨[], rfl, hstH.out, (Below.refl _ _).alloc (Nat.le_refl _) _, RW.CntM.zero L kd h r⟩
theorem count_of (p : Value) (L : List (RW.Vk × ByteArray)) (N : Nat) (w : World) (kd h r : Int) (d : ByteArray) (hc : ∀ W, W = w → Calls Tryd.prog 60 #[p, .int .i64 kd, .int .i64 h, .int .i64 r] W (CountsPost L kd h r N W)) :
    Calls Tryd.prog 35 #[p, .int .i64 kd, .int .i64 h, .int .i64 r, .string d] w fun e w' => e = .returned (.int .i64 (RW.cnt L kd h r d N)) ∧ Below w.heap.size w w' := by
  have hcH := hide (hc w rfl)
  clear hc
  obtain ⟨c, hcn⟩ : ∃ c, c = RW.cnt L kd h r d N := ⟨_, rfl⟩
  rw [← hcn]
  have hcnH := hide hcn
  clear hcn
  go_enter Tryd.func35, Tryd.ntmps35
  go_wp2_with (go_at_call 60; refine hcH.out.mono ?_; rintro e w2 ⟨M, rfl, hown, hB2, hM⟩; have hl2 := KM.OwnM.lookup hown strKey Tryd.underlying96 (z := .int .i64 0) (by go_simp) d; rw [hM d, RW.cval_get, ← hcnH.out] at hl2; have hl2' : (Instr.lookup 96 (.map (some w.heap.size)) (.string d) false).run Tryd.prog w2 = .ok (.int .i64 c) w2 := hl2; have hB2H := hide hB2; clear hl2 hown hM hB2)
  go_ret
  exact ⟨rfl, hB2H.out⟩
end Go.Proofs.YtcbckcojebanaaaDoor

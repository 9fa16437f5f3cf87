/-
  Package ballot: NewBox; what single operations on boxes do: no condition beyond each theorem's own premises.
-/
import Derived.Test.YtcbckcojebanaaaDoorBox1
namespace Go.Proofs.YtcbckcojebanaaaDoor
open Go.RowKit RG
section
variable {ev : Operand → Value} {o : Oper} {x y z : Operand} {w : World}
theorem op_not {p : Bool} (ho : o.op = .unOp .not 4 x) (hx : ev x = .bool p) : (execOp ev o).run Tryd.prog w = .ok (.value (.bool (!p))) w := by
  unfold execOp
  rw [ho]
  go_simp
theorem op_nilc {a : Addr} (ho : o.op = .nilCheck x) (hx : ev x = .pointer (some a)) : (execOp ev o).run Tryd.prog w = .ok (.value (.pointer (some a))) w := by
  unfold execOp
  rw [ho]
  go_simp
theorem op_fab0 {b : Nat} (ho : o.op = .fieldAddr 90 x 0) (hx : ev x = .pointer (some ⟨b, 0, none⟩)) : (execOp ev o).run Tryd.prog w = .ok (.value (.pointer (some ⟨b, 0, none⟩))) w := by
  unfold execOp
  rw [ho]
  go_simp
theorem op_fab1 {b : Nat} (ho : o.op = .fieldAddr 90 x 1) (hx : ev x = .pointer (some ⟨b, 0, none⟩)) : (execOp ev o).run Tryd.prog w = .ok (.value (.pointer (some ⟨b, 1, none⟩))) w := by
  unfold execOp
  rw [ho]
  go_simp
theorem op_load_map {a : Addr} {m : Option Nat} (ho : o.op = .load 88 x) (hx : ev x = .pointer (some a)) (hc : w.cell? a = some (.map m)) : (execOp ev o).run Tryd.prog w = .ok (.value (.map m)) w := by
  unfold execOp
  rw [ho]
  go_simp
theorem op_load_agg {T : TypeId} {b : Nat} {cs : Array Value} (ho : o.op = .load T x) (hx : ev x = .pointer (some ⟨b, 0, none⟩)) (hc : (ldMsg T (.pointer (some ⟨b, 0, none⟩))).run Tryd.prog w = .ok (.agg cs) w) : (execOp ev o).run Tryd.prog w = .ok (.value (.agg cs)) w := by
  unfold execOp
  simp only [ho, hx, Sem.run_bind]
  rw [show Instr.loadAt T (.pointer (some ⟨b, 0, none⟩)) = ldMsg T (.pointer (some ⟨b, 0, none⟩)) from rfl, hc]
  rfl
theorem op_lookup {T : TypeId} {m k v : Value} {c : Bool} (ho : o.op = .lookup T x y c) (hx : ev x = m) (hy : ev y = k) (hr : (Instr.lookup T m k c).run Tryd.prog w = .ok v w) : (execOp ev o).run Tryd.prog w = .ok (.value v) w := by
  unfold execOp
  simp only [ho, hx, hy, Sem.run_bind, hr]
  rfl
theorem op_ext {i : Nat} {vs : Array Value} {v : Value} (ho : o.op = .extract x i) (hx : ev x = .tuple vs) (hv : vs[i]? = some v) : (execOp ev o).run Tryd.prog w = .ok (.value v) w := by
  unfold execOp
  rw [ho]
  go_simp
theorem op_asg {v : Value} (ho : o.op = .assign x) (hx : ev x = v) : (execOp ev o).run Tryd.prog w = .ok (.value v) w := by
  unfold execOp
  rw [ho]
  simp only [hx]
  go_simp
theorem op_upd {T : TypeId} {m k v : Value} {w' : World} (ho : o.op = .mapUpdate T x y z) (hx : ev x = m) (hy : ev y = k) (hz : ev z = v) (hr : (Instr.mapUpdate T m k v).run Tryd.prog w = .ok () w') : (execOp ev o).run Tryd.prog w = .ok .skip w' := by
  unfold execOp
  simp only [ho, hx, hy, hz, Sem.run_bind, hr]
  rfl
theorem op_eqnil {a : Addr} (ho : o.op = .binOp .eql 44 x y 44) (hx : ev x = .pointer (some a)) (hy : ev y = .pointer none) : (execOp ev o).run Tryd.prog w = .ok (.value (.bool false)) w := by
  unfold execOp
  rw [ho]
  simp only [hx, hy]
  go_simp
end
theorem newbox_no (n : Int) (hn : ¬ (1 ≤ n ∧ n ≤ 7)) (w : World) : Calls Tryd.prog 28 #[.int .i64 n] w fun e w' => e = .returned (.pointer none) ∧ w = w' := by
  have hQ := fun W => quorum_any n W
  have hq : RW.quorum n = 0 := by rw [RW.quorum, if_neg hn]
  rw [hq] at hQ
  have hQH := hide hQ
  clear hQ hq hn
  go_enter Tryd.func28, Tryd.ntmps28
  go_wp2_with (go_at_call 20; refine (hQH.out _).mono ?_; rintro e w' ⟨rfl, rfl⟩)
  go_ret
  exact ⟨rfl, rfl⟩
theorem newbox_yes (n : Int) (hn : 1 ≤ n ∧ n ≤ 7) (w : World) : Calls Tryd.prog 28 #[.int .i64 n] w fun e w' => e = .returned (.pointer (some ⟨w.heap.size + 1, 0, none⟩)) ∧ BoxAt w' (w.heap.size + 1) w.heap.size n [] ∧ Below w.heap.size w w' := by
  have hQ := fun W => quorum_any n W
  obtain ⟨q, hq⟩ : ∃ q, q = RW.quorum n := ⟨_, rfl⟩
  have hq0 : (q == 0) = false := by rw [hq, RW.quorum, if_pos hn]; simp; omega
  rw [← hq] at hQ
  have hQH := hide hQ
  clear hQ hq hn
  have hmk : ∀ W, (Instr.makeMap 88 none).run Tryd.prog W = .ok (.map (some W.heap.size)) (W.alloc (.map #[] 0)) := fun _ => rfl
  go_enter Tryd.func28, Tryd.ntmps28
  go_wp2_with (go_at_call 20; refine (hQH.out _).mono ?_; rintro e w' ⟨rfl, rfl⟩)
  go_ret
  refine ⟨rfl, ⟨?_, ?_⟩, ?_⟩
  · exact heap_new_at (by simp)
  · exact (KM.OwnM.made w).keep (Below.heap_alloc _ _ _ (by simp))
  · exact ((Below.refl _ _).alloc (Nat.le_refl _) _).alloc (by simp) _
end Go.Proofs.YtcbckcojebanaaaDoor

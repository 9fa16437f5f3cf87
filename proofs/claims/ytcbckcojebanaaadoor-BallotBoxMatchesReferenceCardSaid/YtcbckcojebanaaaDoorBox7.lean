/-
  Package ballot: Add at a box that is not there; messages and a box in memory together: no condition beyond each theorem's own premises.
-/
import Derived.Test.YtcbckcojebanaaaDoorMZ3
import Derived.Test.YtcbckcojebanaaaDoorMZ4
import Derived.Test.YtcbckcojebanaaaDoorBal12
namespace Go.Proofs.YtcbckcojebanaaaDoor
open Go.RowKit RG
theorem op_eqnil2 {ev : Operand → Value} {o : Oper} {x y : Operand} {w : World} (ho : o.op = .binOp .eql 44 x y 44) (hx : ev x = .pointer none) (hy : ev y = .pointer none) : (execOp ev o).run Tryd.prog w = .ok (.value (.bool true)) w := by
  unfold execOp
  rw [ho]
  simp only [hx, hy]
  go_simp
set_option maxRecDepth 100000 in
set_option maxHeartbeats 4000000 in
theorem bxadd_nil (cs : Array Value) (w : World) : Calls Tryd.prog 31 #[.pointer none, .agg cs] w fun e w' => e = .returned (.bool false) ∧ Below w.heap.size w w' := by
  go_enter Tryd.func31, Tryd.ntmps31
  go_upto_region 1 with fail
  refine wp_region_staged (fun _ w' => Below w.heap.size w w') [] (by kernel_rfl) (by kernel_rfl) (by rfl) ((Below.refl _ _).alloc (Nat.le_refl _) _).drew ?_
  refine st_val (.pointer none) (by rfl) (by rfl) (fun w => op_mv rfl rfl) ?_
  simp only [Act.put, List.setIfInBounds_toArray, List.set_cons_zero, List.set_cons_succ]
  refine st_val (.bool true) (by rfl) (by rfl) (fun w => op_eqnil2 rfl rfl rfl) ?_
  simp only [Act.put, List.setIfInBounds_toArray, List.set_cons_zero, List.set_cons_succ]
  refine st_val (.bool true) (by rfl) (by rfl) (fun w => op_mv rfl rfl) ?_
  simp only [Act.put, List.setIfInBounds_toArray, List.set_cons_zero, List.set_cons_succ]
  refine st_skip (by rfl) (by rfl) ?_
  simp only [Act.put, List.setIfInBounds_toArray, List.set_cons_zero, List.set_cons_succ]
  refine st_skip (by rfl) (by rfl) ?_
  simp only [Act.put, List.setIfInBounds_toArray, List.set_cons_zero, List.set_cons_succ]
  refine st_skip (by rfl) (by rfl) ?_
  simp only [Act.put, List.setIfInBounds_toArray, List.set_cons_zero, List.set_cons_succ]
  refine st_skip (by rfl) (by rfl) ?_
  simp only [Act.put, List.setIfInBounds_toArray, List.set_cons_zero, List.set_cons_succ]
  refine st_val (.bool true) (by rfl) (by rfl) (fun w => op_pick rfl rfl rfl rfl rfl) ?_
  simp only [Act.put, List.setIfInBounds_toArray, List.set_cons_zero, List.set_cons_succ]
  refine st_val (.bool true) (by rfl) (by rfl) (fun w => op_mv rfl rfl) ?_
  simp only [Act.put, List.setIfInBounds_toArray, List.set_cons_zero, List.set_cons_succ]
  refine st_skip (by rfl) (by rfl) ?_
  simp only [Act.put, List.setIfInBounds_toArray, List.set_cons_zero, List.set_cons_succ]
  refine st_skip (by rfl) (by rfl) ?_
  simp only [Act.put, List.setIfInBounds_toArray, List.set_cons_zero, List.set_cons_succ]
  refine st_skip (by rfl) (by rfl) ?_
  simp only [Act.put, List.setIfInBounds_toArray, List.set_cons_zero, List.set_cons_succ]
  refine st_val (.bool true) (by rfl) (by rfl) (fun w => op_pick rfl rfl rfl rfl rfl) ?_
  simp only [Act.put, List.setIfInBounds_toArray, List.set_cons_zero, List.set_cons_succ]
  refine st_val (.bool true) (by rfl) (by rfl) (fun w => op_mv rfl rfl) ?_
  simp only [Act.put, List.setIfInBounds_toArray, List.set_cons_zero, List.set_cons_succ]
  refine st_skip (by rfl) (by rfl) ?_
  simp only [Act.put, List.setIfInBounds_toArray, List.set_cons_zero, List.set_cons_succ]
  refine st_skip (by rfl) (by rfl) ?_
  simp only [Act.put, List.setIfInBounds_toArray, List.set_cons_zero, List.set_cons_succ]
  refine st_skip (by rfl) (by rfl) ?_
  simp only [Act.put, List.setIfInBounds_toArray, List.set_cons_zero, List.set_cons_succ]
  refine st_skip (by rfl) (by rfl) ?_
  simp only [Act.put, List.setIfInBounds_toArray, List.set_cons_zero, List.set_cons_succ]
  refine st_skip (by rfl) (by rfl) ?_
  simp only [Act.put, List.setIfInBounds_toArray, List.set_cons_zero, List.set_cons_succ]
  refine st_skip (by rfl) (by rfl) ?_
  simp only [Act.put, List.setIfInBounds_toArray, List.set_cons_zero, List.set_cons_succ]
  refine st_skip (by rfl) (by rfl) ?_
  simp only [Act.put, List.setIfInBounds_toArray, List.set_cons_zero, List.set_cons_succ]
  refine st_val (.bool true) (by rfl) (by rfl) (fun w => op_pick rfl rfl rfl rfl rfl) ?_
  simp only [Act.put, List.setIfInBounds_toArray, List.set_cons_zero, List.set_cons_succ]
  refine st_nil ?_
  intro W hB
  have hBH := hide hB
  clear hB
  go_wp2
  go_ret
  exact ⟨rfl, hBH.out⟩
/-- messages in variables, and a box -/
structure SW (l : List (Nat × Array Value)) (w : World) (bx mb : Nat) (N : Int) (L : List (RW.Vk × ByteArray)) (W : World) : Prop where
  rows : MRows l w W
  box : BoxAt W bx mb N L
  ne : ∀ x ∈ l, x.1 ≠ mb
  nx : ∀ x ∈ l, x.1 ≠ bx
  le : w.heap.size ≤ mb
section
variable {l : List (Nat × Array Value)} {w W W' : World} {bx mb : Nat} {N : Int} {L L' : List (RW.Vk × ByteArray)}
theorem SW.next (h : SW l w bx mb N L W) (hB : Below W.heap.size W W') : SW l w bx mb N L W' := ⟨h.rows.next hB, h.box.next hB, h.ne, h.nx, h.le⟩
theorem SW.new (h : SW l w bx mb N L W) (cs : Array Value) : SW ((W.heap.size, cs) :: l) w bx mb N L (W.alloc (.cells cs 24)) :=
  ⟨h.rows.new cs, h.box.next ((Below.refl _ _).alloc (Nat.le_refl _) _), fun x hx => by
    have := h.box.lt
    rcases List.mem_cons.1 hx with rfl | hx
    · show W.heap.size ≠ mb
      omega
    · exact h.ne x hx, fun x hx => by
    have := h.box.lt
    rcases List.mem_cons.1 hx with rfl | hx
    · show W.heap.size ≠ bx
      omega
    · exact h.nx x hx, h.le⟩
theorem SW.add (h : SW l w bx mb N L W) (hb : BoxAt W' bx mb N L') (hk : KeptBut mb W W') : SW l w bx mb N L' W' :=
  ⟨⟨⟨hk.os.trans h.rows.below.os, hk.tape.trans h.rows.below.tape, hk.output.trans h.rows.below.output, Nat.le_trans h.rows.below.size hk.size, fun k hkl => (hk.block k (Nat.lt_of_lt_of_le hkl h.rows.below.size) (by have := h.le; omega)).trans (h.rows.below.block k hkl)⟩,
    fun x hx => (hk.block _ (h.rows.lt x hx) (h.ne x hx)).trans (h.rows.rows x hx)⟩, hb, h.ne, h.nx, h.le⟩
theorem SW.ld (h : SW l w bx mb N L W) (b : Nat) (n : Nat → Int) (d : ByteArray) (v : Value) (hx : (b, RW.mcells n d v) ∈ l) : (ldMsg 24 (.pointer (some ⟨b, 0, none⟩))).run Tryd.prog W = .ok (.agg (RW.mcells n d v)) W := msg_ld (h.rows.rows _ hx)
/-- a variable's digest is written -/
theorem SW.dig (h : SW l w bx mb N L W) (b : Nat) (n : Nat → Int) (d d' : ByteArray) (v : Value) (hx : (b, RW.mcells n d v) ∈ l) (hb : w.heap.size ≤ b) (l' : List (Nat × Array Value)) (hl : ∀ x ∈ l', x = (b, RW.mcells n d' v) ∨ (x ∈ l ∧ x.1 ≠ b)) :
    SW l' w bx mb N L (W.setCell ⟨b, 6, none⟩ (.string d')) := by
  have hbm := h.ne _ hx
  have hbx := h.nx _ hx
  refine ⟨⟨h.rows.below.setCell hb _, fun x hx' => ?_⟩, h.box.keep (Below.heap_setCell _ _ _ _ (Ne.symm hbx)) (Below.heap_setCell _ _ _ _ (Ne.symm hbm)), fun x hx' => ?_, fun x hx' => ?_, h.le⟩
  · rcases hl x hx' with rfl | ⟨h1, h2⟩
    · show (W.setCell ⟨b, 6, none⟩ (.string d')).heap[b]? = _
      rw [← RW.mcells_dig n d d' v]
      exact heap_setCell_same _ _ _ _ _ _ (h.rows.rows _ hx)
    · exact (Below.heap_setCell _ _ _ _ h2).trans (h.rows.rows x h1)
  · rcases hl x hx' with rfl | ⟨h1, _⟩
    · exact hbm
    · exact h.ne x h1
  · rcases hl x hx' with rfl | ⟨h1, _⟩
    · exact hbx
    · exact h.nx x h1
theorem StrsV.nil (W : World) : StrsV W (.slice none 0 0) [] := ⟨none, 0, rfl, Nat.le_refl _, .inl rfl⟩
end
end Go.Proofs.YtcbckcojebanaaaDoor

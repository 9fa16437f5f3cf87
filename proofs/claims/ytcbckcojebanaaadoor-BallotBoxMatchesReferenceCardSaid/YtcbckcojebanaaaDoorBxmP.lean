/-
  Package royaltylaw25: two boxes in memory, the program's and the reference's; what single operations do: no condition beyond each theorem's own premises.
-/
import Derived.Test.YtcbckcojebanaaaDoorRbx2
import Derived.Test.YtcbckcojebanaaaDoorRbx3
import Derived.Test.YtcbckcojebanaaaDoorRbx4
import Derived.Test.YtcbckcojebanaaaDoorBrtQ
namespace Go.Proofs.YtcbckcojebanaaaDoor
open Go.RowKit RG
namespace RW
theorem rahL_of {N : Nat} {L : List (Vk × ByteArray)} (hg : GoodL N L) (h r : Int) : AheadOf L h r (rahL L h r N) := by
  refine ⟨?_, fun f => ?_⟩
  · unfold rahL
    exact List.pairwise_map.2 ((List.nodup_range.sublist List.filter_sublist).imp fun h e => h (by omega))
  · unfold rahL
    rw [List.mem_map]
    constructor
    · rintro ⟨j, hj, rfl⟩
      have h2 := (List.mem_filter.1 hj).2
      unfold hasF at h2
      rw [List.any_eq_true] at h2
      obtain ⟨x, hx, h3⟩ := h2
      rw [Bool.and_eq_true, decide_eq_true_eq] at h3
      exact ⟨x, hx, h3.1, h3.2⟩
    · rintro ⟨x, hx, h1, h2⟩
      have hr := hg.fr x hx
      refine ⟨f.toNat, List.mem_filter.2 ⟨List.mem_range.2 (by omega), ?_⟩, by omega⟩
      unfold hasF
      rw [List.any_eq_true]
      exact ⟨x, hx, by rw [Bool.and_eq_true, decide_eq_true_eq]; exact ⟨by omega, h2⟩⟩
theorem aheadN_rah {N : Nat} {L : List (Vk × ByteArray)} (hg : GoodL N L) (h r : Int) : aheadN L h r = rah L h r N := by rw [← aheadN_of (rahL_of hg h r), rahL_len]
end RW
/-- two boxes that hold the same votes, the program's and the reference's -/
structure BB (w : World) (B bx mb rb N : Nat) (LL : List (RW.Vk × ByteArray)) (vb : Value) (Lx : List RW.Mx) (W : World) : Prop where
  below : Below B w W
  box : BoxAt W bx mb N LL
  ref : RBx W rb N vb Lx
  same : Lx.map RW.mxp = LL
  good : RW.GoodL N LL
  lt : B ≤ mb ∧ mb < rb ∧ bx < rb ∧ B ≤ w.heap.size
theorem BB.next {w W W' : World} {B bx mb rb N : Nat} {LL : List (RW.Vk × ByteArray)} {vb : Value} {Lx : List RW.Mx} (h : BB w B bx mb rb N LL vb Lx W) (hB : Below W.heap.size W W') : BB w B bx mb rb N LL vb Lx W' :=
  ⟨h.below.trans (hB.mono (by have := h.ref.lt; have := h.lt; omega)), h.box.next hB, h.ref.next hB, h.same, h.good, h.lt⟩
theorem kept_bel {w W W' : World} {B mb : Nat} (hk : KeptBut mb W W') (h : Below B w W) (hm : B ≤ mb) (hBw : B ≤ w.heap.size) : Below B w W' :=
  ⟨hk.os.trans h.os, hk.tape.trans h.tape, hk.output.trans h.output, Nat.le_trans h.size hk.size, fun k hkl => (hk.block k (Nat.lt_of_lt_of_le hkl (Nat.le_trans hBw h.size)) (by omega)).trans (h.block k hkl)⟩
theorem BB.setRow {w W : World} {B bx mb rb N b : Nat} {LL : List (RW.Vk × ByteArray)} {vb : Value} {Lx : List RW.Mx} (h : BB w B bx mb rb N LL vb Lx W) (hb : rb < b) (hv : ∀ g, vb.ownBlock = some g → g < b) (cs : Array Value) : BB w B bx mb rb N LL vb Lx (W.setRow b cs) := by
  have hlt := h.lt
  refine ⟨belowSetRow h.below (by omega) cs, h.box.keep (setRow_other _ _ _ _ (by omega)) (setRow_other _ _ _ _ (by omega)), h.ref.keep (setRow_other _ _ _ _ (by omega)) (fun g hg => setRow_other _ _ _ _ (by have := hv g hg; omega)), h.same, h.good, hlt⟩
theorem StrsV.setRow {W : World} {b : Nat} {v : Value} {l : List ByteArray} (h : StrsV W v l) (hb : ∀ g, v.ownBlock = some g → b < g) (cs : Array Value) : StrsV (W.setRow b cs) v l := by
  obtain ⟨a, cap, rfl, hc, h⟩ := h
  refine ⟨a, cap, rfl, hc, ?_⟩
  rcases h with h | ⟨c, o, rfl, hcl, hcell⟩
  · exact .inl h
  · have hne := hb c rfl
    exact .inr ⟨c, o, rfl, by simpa [World.setRow] using hcl, fun i hi => (World.cell?_of_block (a := ⟨c, o + i, none⟩) (setRow_other _ _ _ _ (by show c ≠ b; omega))).trans (hcell i hi)⟩
/-- a list of strings lies in no map -/
theorem BoxAt.strs {W W' : World} {bx mb : Nat} {N : Int} {L : List (RW.Vk × ByteArray)} (hb : BoxAt W bx mb N L) {v : Value} {l : List ByteArray} (h : StrsV W v l) (hk : KeptBut mb W W') : StrsV W' v l := by
  obtain ⟨es, cl, hm, _⟩ := hb.own
  obtain ⟨a, cap, rfl, hc, h⟩ := h
  refine ⟨a, cap, rfl, hc, ?_⟩
  rcases h with h | ⟨b, o, ha, hbl, hcell⟩
  · exact .inl h
  · by_cases hl : l.length = 0
    · exact .inl (List.length_eq_zero_iff.1 hl)
    · have hne : b ≠ mb := by
        rintro rfl
        have h0 := hcell 0 (by omega)
        simp [World.cell?, hm] at h0
      exact .inr ⟨b, o, ha, Nat.lt_of_lt_of_le hbl hk.size, fun i hi => (World.cell?_of_block (a := ⟨b, o + i, none⟩) (hk.block b hbl hne)).trans (hcell i hi)⟩
theorem cu_calls2 {D : World → Prop} {r : Result Next} {v : Value} {k : Nat} {args : Array Value} {w : World} (hr : r = .ok (.enter k args) w) (h : Calls Tryd.prog k args w fun e w' => e = .returned v ∧ D w') : CUp Tryd.prog D v r := by
  rw [hr]
  exact h
section
variable {ev : Operand → Value} {o : Oper} {x y x1 x2 x3 x4 x5 : Operand} {w : World}
theorem op_x2 {D : Value → World → Prop} {k : Nat} {ts : Array TypeId} {a b : Value} (ho : o.op = .call ⟨.value (.func k), #[x, y], ts⟩) (hf : ev (.func k) = .func (.func k) #[] #[]) (h1 : ev x = a) (h2 : ev y = b) (hk : ∀ args w, (callFunc k args).run Tryd.prog w = .ok (.enter k args) w)
    (h : Calls Tryd.prog k #[a, b] w fun e w'' => ∃ u, e = .returned u ∧ D u w'') : XUp Tryd.prog D ((execOp ev o).run Tryd.prog w) := by
  have h1 : (execOp ev o).run Tryd.prog w = .ok (.enter k #[a, b]) w := by
    unfold execOp
    rw [ho]
    go_simp
  rw [h1]
  exact h
theorem op_neq_strF2 {m : ByteArray} (ho : o.op = .binOp .neq 9 x y 9) (hx : ev x = .string m) (hy : ev y = .string m) : (execOp ev o).run Tryd.prog w = .ok (.value (.bool false)) w := by
  rw [op_neq_str ho hx hy]
  simp
theorem op_neq_intF2 {m : Int} (ho : o.op = .binOp .neq 3 x y 3) (hx : ev x = .int .i64 m) (hy : ev y = .int .i64 m) : (execOp ev o).run Tryd.prog w = .ok (.value (.bool false)) w := by
  rw [op_neq_int ho hx hy]
  simp
theorem op_neq_bF {m : Bool} (ho : o.op = .binOp .neq 4 x y 4) (hx : ev x = .bool m) (hy : ev y = .bool m) : (execOp ev o).run Tryd.prog w = .ok (.value (.bool false)) w := by
  unfold execOp
  rw [ho]
  simp only [hx, hy]
  go_simp
theorem op_r3 {k : Nat} {ts : Array TypeId} {a b c : Value} (ho : o.op = .call ⟨.value (.func k), #[x1, x2, x3], ts⟩) (hf : ev (.func k) = .func (.func k) #[] #[]) (h1 : ev x1 = a) (h2 : ev x2 = b) (h3 : ev x3 = c) (hk : ∀ args w, (callFunc k args).run Tryd.prog w = .ok (.enter k args) w) :
    (execOp ev o).run Tryd.prog w = .ok (.enter k #[a, b, c]) w := by
  unfold execOp
  rw [ho]
  go_simp
theorem op_r5 {k : Nat} {ts : Array TypeId} {a b c d e : Value} (ho : o.op = .call ⟨.value (.func k), #[x1, x2, x3, x4, x5], ts⟩) (hf : ev (.func k) = .func (.func k) #[] #[]) (h1 : ev x1 = a) (h2 : ev x2 = b) (h3 : ev x3 = c) (h4 : ev x4 = d) (h5 : ev x5 = e) (hk : ∀ args w, (callFunc k args).run Tryd.prog w = .ok (.enter k args) w) :
    (execOp ev o).run Tryd.prog w = .ok (.enter k #[a, b, c, d, e]) w := by
  unfold execOp
  rw [ho]
  go_simp
end
theorem cf_badd : ∀ args w, (callFunc 31 args).run Tryd.prog w = .ok (.enter 31 args) w := fun args w => by go_simp
theorem cf_radd : ∀ args w, (callFunc 32 args).run Tryd.prog w = .ok (.enter 32 args) w := fun args w => by go_simp
theorem cf_bcount : ∀ args w, (callFunc 35 args).run Tryd.prog w = .ok (.enter 35 args) w := fun args w => by go_simp
theorem cf_rcount : ∀ args w, (callFunc 36 args).run Tryd.prog w = .ok (.enter 36 args) w := fun args w => by go_simp
theorem cf_bahead : ∀ args w, (callFunc 37 args).run Tryd.prog w = .ok (.enter 37 args) w := fun args w => by go_simp
theorem cf_rahead : ∀ args w, (callFunc 38 args).run Tryd.prog w = .ok (.enter 38 args) w := fun args w => by go_simp
end Go.Proofs.YtcbckcojebanaaaDoor

/-
  Package digest: Root: what it returns; only new memory is written.
-/
import Derived.Test.YtllbphanfahkkaaGreatDoorFs5
import Derived.Test.YtllbphanfahkkaaGreatDoorDr2
import Derived.Test.YtllbphanfahkkaaGreatDoorDrP
namespace Go.Proofs.YtllbphanfahkkaaGreatDoor
open Go.RowKit Go.Shelf RG
section
variable {ev : Operand → Value} {o : Oper} {x y : Operand} {w : World}
theorem op_gtD {a b : Int} {r : Bool} (ho : o.op = .binOp .gtr 3 x y 3) (hx : ev x = .int .i64 a) (hy : ev y = .int .i64 b) (h : decide (b < a) = r) : (execOp ev o).run Tryz.prog w = .ok (.value (.bool r)) w := by
  unfold execOp
  rw [ho]
  go_simp
theorem op_eqD {a b : Int} {r : Bool} (ho : o.op = .binOp .eql 3 x y 3) (hx : ev x = .int .i64 a) (hy : ev y = .int .i64 b) (h : decide (a = b) = r) : (execOp ev o).run Tryz.prog w = .ok (.value (.bool r)) w := by
  unfold execOp
  rw [ho]
  go_simp
  exact h
theorem op_subD {m n r : Int} (ho : o.op = .binOp .sub 3 x y 3) (hx : ev x = .int .i64 m) (hy : ev y = .int .i64 n) (h : m - n = r) (hb : -9223372036854775808 ≤ r ∧ r ≤ 9223372036854775807) : (execOp ev o).run Tryz.prog w = .ok (.value (.int .i64 r)) w := by
  have h1 : IntKind.i64.wrap r = r := by rw [IntKind.wrap_i64]; omega
  unfold execOp
  rw [ho]
  go_simp
theorem op_dblD {n r : Int} (ho : o.op = .binOp .mul 3 x y 3) (hx : ev x = .int .i64 2) (hy : ev y = .int .i64 n) (h : 2 * n = r) (hb : -9223372036854775808 ≤ r ∧ r ≤ 9223372036854775807) : (execOp ev o).run Tryz.prog w = .ok (.value (.int .i64 r)) w := by
  have h1 : IntKind.i64.wrap r = r := by rw [IntKind.wrap_i64]; omega
  unfold execOp
  rw [ho]
  go_simp
theorem op_idx_iD {b ao i n c : Nat} (ho : o.op = .indexAddr 56 x y) (hx : ev x = .slice (some ⟨b, ao, none⟩) n c) (hy : ev y = .int .i64 i) (hi : i < n) : (execOp ev o).run Tryz.prog w = .ok (.value (.pointer (some ⟨b, ao + i, none⟩))) w := by
  unfold execOp
  rw [ho]
  simp only [hx, hy]
  go_simp
theorem op_bs1D {s : ByteArray} (ho : o.op = .buildSlice 22 1 #[(0, x)]) (hx : ev x = .string s) : (execOp ev o).run Tryz.prog w = .ok (.value (.slice (some ⟨w.heap.size, 0, none⟩) 1 1)) (w.alloc (.cells #[.string s] 9)) := by
  unfold execOp
  rw [ho]
  go_simp
theorem op_bsiD {n : Int} (ho : o.op = .buildSlice 56 1 #[(0, x)]) (hx : ev x = .int .i64 n) : (execOp ev o).run Tryz.prog w = .ok (.value (.slice (some ⟨w.heap.size, 0, none⟩) 1 1)) (w.alloc (.cells #[.int .i64 n] 3)) := by
  unfold execOp
  rw [ho]
  go_simp
theorem op_hi_sD {a : Option Addr} {n c m : Nat} (ho : o.op = .slice 22 x none (some y) none) (hx : ev x = .slice a n c) (hy : ev y = .int .i64 (m : Int)) (hm : m ≤ c) : (execOp ev o).run Tryz.prog w = .ok (.value (.slice a m c)) w := by
  have h : (m : Int) ≤ (c : Int) := by omega
  unfold execOp
  rw [ho]
  simp only [hx]
  go_simp
theorem op_hi_iD {a : Option Addr} {n c m : Nat} (ho : o.op = .slice 56 x none (some y) none) (hx : ev x = .slice a n c) (hy : ev y = .int .i64 (m : Int)) (hm : m ≤ c) : (execOp ev o).run Tryz.prog w = .ok (.value (.slice a m c)) w := by
  have h : (m : Int) ≤ (c : Int) := by omega
  unfold execOp
  rw [ho]
  simp only [hx]
  go_simp
end
theorem int_ldD {W : World} {g i : Nat} {n : Int} (h : W.cell? ⟨g, i, none⟩ = some (.int .i64 n)) : (ldRow 3 (.pointer (some ⟨g, i, none⟩))).run Tryz.prog W = .ok (.int .i64 n) W := by
  unfold ldRow
  go_simp
theorem cf_node : ∀ args w, (callFunc 151 args).run Tryz.prog w = .ok (.enter 151 args) w := fun args w => by go_simp
abbrev IntsN (W : World) (B : Nat) (v : Value) (l : List Nat) : Prop := W.ownsRow B 3 1 v l.length (l.map fun n : Nat => Value.int .i64 (n : Int))
theorem own_cell1 {W : World} {B : Nat} {e : TypeId} {a : Option Addr} {n n' c : Nat} {xs : List Value} (h : W.ownsRow B e 1 (.slice a n' c) n xs) {i : Nat} {u : Value} (hi : xs[i]? = some u) : ∃ g, a = some ⟨g, 0, none⟩ ∧ W.cell? ⟨g, 0 + i, none⟩ = some u ∧ n ≤ c := by
  have hl := h.1
  have hil := (List.getElem?_eq_some_iff.1 hi).1
  rcases h.2 with ⟨h1, h2⟩ | ⟨g, cap, cur, h1, _, h3, h4, _, _, h6⟩
  · omega
  · cases h1
    refine ⟨g, rfl, ?_, h4⟩
    rw [Nat.zero_add, cellAt h3 i, ← Array.getElem?_toList]
    rw [← h6, List.getElem?_take_of_lt (by omega)] at hi
    exact hi
theorem own_cutV {W : World} {B : Nat} {e : TypeId} {a : Option Addr} {n c : Nat} {xs : List Value} (h : W.ownsRow B e 1 (.slice a n c) n xs) {i : Nat} (hi : i ≤ n) (hn : 0 < n) : W.ownsRow B e 1 (.slice a i c) i (xs.take i) ∧ i ≤ c := by
  have hl := h.1
  rcases h.2 with ⟨h1, h2⟩ | ⟨g, cap, cur, h1, h2, h3, h4, h5, h6, h7⟩
  · omega
  · cases h1
    refine ⟨⟨by rw [List.length_take]; omega, .inr ⟨g, c, cur, rfl, h2, h3, by omega, h5, h6, ?_⟩⟩, by omega⟩
    rw [← h7, List.take_take, Nat.mul_one, Nat.mul_one, Nat.min_eq_left hi]
theorem int_infoD : (Tryz.prog.info? 3).map (fun i => (i.zero, i.size, i.bytes)) = some (some (.int .i64 0), 1, 8) := by kernel_rfl
theorem run_app_int {W : World} {B : Nat} {v : Value} {l : List Nat} (r : Nat) (hown : IntsN W B v l) (hB : B ≤ W.heap.size) (hl : l.length ≤ 5000000) :
    ∃ v' W', (Builtin.append_ #[56, 56] 56 #[v, .slice (some ⟨W.heap.size, 0, none⟩) 1 1]).run Tryz.prog (W.alloc (.cells #[.int .i64 (r : Int)] 3)) = .ok v' W' ∧ IntsN W' B v' (l ++ [r]) ∧ ChgS (fun j => v.ownBlock = some j) W W' := by
  obtain ⟨i0, hi, hz0, hz1, hz2⟩ := info_parts int_infoD
  have hA := alloc_bel (Below.refl W.heap.size W) (Nat.le_refl _) (.cells #[.int .i64 (r : Int)] 3)
  have hg := alloc_at1 W (.cells #[.int .i64 (r : Int)] 3)
  have h1 : IntsN (W.alloc (.cells #[.int .i64 (r : Int)] 3)) B v l := own_keep hown fun g hg' => hA.block _ (own_blk hown hg').2.1
  obtain ⟨v', W', hr, ho, hgr, _, hb⟩ := run_append_own_at (P := Tryz.prog) (w := W.alloc (.cells #[.int .i64 (r : Int)] 3)) B 56 56 3 i0 (.int .i64 0) 1 8 Tryz.underlying56 hi hz0 hz1 hz2 (by rfl) (by decide) v l.length (l.map fun n : Nat => Value.int .i64 (n : Int)) h1 ⟨W.heap.size, 0, none⟩ 1 1 [.int .i64 (r : Int)] rfl (fun j u hj => by
    have e := cellAt hg j
    rw [show (⟨W.heap.size, 0, none⟩ : Addr).add j = ⟨W.heap.size, j, none⟩ by rw [Addr.add_mid, Nat.zero_add], e]
    simpa using hj) (fun u hu => by simp at hu; subst hu; rfl) (by unfold maxLen; omega) (by omega) (Nat.le_trans hB hA.size)
  refine ⟨v', W', hr, by rw [IntsN, List.length_append, List.map_append]; exact ho, ⟨hgr.os, hgr.tape, hgr.output, Nat.le_trans hA.size hgr.size, fun k hk hn => (hgr.block k (Nat.lt_of_lt_of_le hk hA.size) fun e => hn e.symm).trans (hA.block k hk)⟩⟩
/-- the two rows under way -/
structure RtS (B : Nat) (v3 : Value) (l3 : List ByteArray) (v4 : Value) (l4 : List Nat) (w W : World) : Prop where
  who : StrsOwn W B v3 l3
  siz : IntsN W B v4 l4
  bel : Below B w W
  hB : B ≤ w.heap.size
section
variable {B : Nat} {v3 v4 : Value} {l3 : List ByteArray} {l4 : List Nat} {w W W' : World}
theorem RtS.size (h : RtS B v3 l3 v4 l4 w W) : B ≤ W.heap.size := Nat.le_trans h.hB h.bel.size
theorem RtS.next (h : RtS B v3 l3 v4 l4 w W) (hB : Below W.heap.size W W') : RtS B v3 l3 v4 l4 w W' :=
  ⟨own_keep h.who fun g hg => hB.block g (own_blk h.who hg).2.1, own_keep h.siz fun g hg => hB.block g (own_blk h.siz hg).2.1, h.bel.trans (hB.mono h.size), h.hB⟩
theorem RtS.ne (h : RtS B v3 l3 v4 l4 w W) {g k : Nat} (h3 : v3.ownBlock = some g) (h4 : v4.ownBlock = some k) : g ≠ k := by
  obtain ⟨_, _, c, fr, hc⟩ := own_blk h.who h3
  obtain ⟨_, _, c', fr', hc'⟩ := own_blk h.siz h4
  exact blocks_ne hc hc' (by decide)
theorem RtS.app3 (h : RtS B v3 l3 v4 l4 w W) (hl : l3.length ≤ 2000000) (r : ByteArray) :
    ∃ a c W', (Builtin.append_ #[22, 22] 22 #[v3, .slice (some ⟨W.heap.size, 0, none⟩) 1 1]).run Tryz.prog (W.alloc (.cells #[.string r] 9)) = .ok (.slice a (l3.length + 1) c) W' ∧ RtS B (.slice a (l3.length + 1) c) (l3 ++ [r]) v4 l4 w W' := by
  obtain ⟨v', W', hr, ho, hc, _⟩ := run_app_str r h.who h.size (by omega)
  obtain ⟨a, c, e⟩ := own_shape ho
  rw [List.length_append] at e
  subst e
  exact ⟨a, c, W', hr, ho, own_keep h.siz fun g hg => hc.block g (own_blk h.siz hg).2.1 (fun e => h.ne e hg rfl), h.bel.trans (hc.belowJ (fun k hk => (own_blk h.who hk).1) h.size), h.hB⟩
theorem RtS.app4 (h : RtS B v3 l3 v4 l4 w W) (hl : l4.length ≤ 2000000) (r : Nat) :
    ∃ a c W', (Builtin.append_ #[56, 56] 56 #[v4, .slice (some ⟨W.heap.size, 0, none⟩) 1 1]).run Tryz.prog (W.alloc (.cells #[.int .i64 (r : Int)] 3)) = .ok (.slice a (l4.length + 1) c) W' ∧ RtS B v3 l3 (.slice a (l4.length + 1) c) (l4 ++ [r]) w W' := by
  obtain ⟨v', W', hr, ho, hc⟩ := run_app_int r h.siz h.size (by omega)
  obtain ⟨a, c, e⟩ := own_shape ho
  rw [List.length_append] at e
  subst e
  exact ⟨a, c, W', hr, own_keep h.who fun g hg => hc.block g (own_blk h.who hg).2.1 (fun e => h.ne hg e rfl), ho, h.bel.trans (hc.belowJ (fun k hk => (own_blk h.siz hk).1) h.size), h.hB⟩
theorem RtS.cut3 {a : Option Addr} {n c : Nat} (h : RtS B (.slice a n c) l3 v4 l4 w W) (hn : n = l3.length) {i : Nat} (hi : i ≤ n) (h0 : 0 < n) : RtS B (.slice a i c) (l3.take i) v4 l4 w W ∧ i ≤ c := by
  subst hn
  obtain ⟨g1, g2⟩ := own_cutV h.who hi h0
  refine ⟨⟨?_, h.siz, h.bel, h.hB⟩, g2⟩
  show W.ownsRow B 9 1 (.slice a i c) (l3.take i).length ((l3.take i).map Value.string)
  rw [List.length_take, Nat.min_eq_left hi, List.map_take]
  exact g1
theorem RtS.cut4 {a : Option Addr} {n c : Nat} (h : RtS B v3 l3 (.slice a n c) l4 w W) (hn : n = l4.length) {i : Nat} (hi : i ≤ n) (h0 : 0 < n) : RtS B v3 l3 (.slice a i c) (l4.take i) w W ∧ i ≤ c := by
  subst hn
  obtain ⟨g1, g2⟩ := own_cutV h.siz hi h0
  refine ⟨⟨h.who, ?_, h.bel, h.hB⟩, g2⟩
  show W.ownsRow B 3 1 (.slice a i c) (l4.take i).length ((l4.take i).map fun n : Nat => Value.int .i64 (n : Int))
  rw [List.length_take, Nat.min_eq_left hi, List.map_take]
  exact g1
end
theorem cells_nextD {W W' : World} {a : Addr} {v : Value} (h : W.cell? a = some v) (hs : a.spot = none) (hB : Below W.heap.size W W') : W'.cell? a = some v := by
  obtain ⟨b, i, s⟩ := a
  cases hs
  exact (World.cell?_of_block (a := ⟨b, i, none⟩) (hB.block _ (cell_ltJ h))).trans h
end Go.Proofs.YtllbphanfahkkaaGreatDoor

/-
  Package royaltylaw19: StatementMatchesReference: it returns true; only new memory is written.
-/
import Derived.Test.YtillplhadimgmaaSt27
import Derived.Test.YtillplhadimgmaaSt16
import Derived.Test.YtillplhadimgmaaSt29
namespace Go.Proofs.Ytillplhadimgmaa
open Go.RowKit RG
def bksl (z : Int) (v : Value) : List Value := [.int .i64 z, .slice none 0 0, v, .slice none 0 0, .slice none 0 0, .slice none 0 0]
def bk2 (z1 : Int) (v1 : Value) (z2 : Int) (v2 : Value) : Array Value := #[.int .i64 z1, .slice none 0 0, v1, .slice none 0 0, .slice none 0 0, .slice none 0 0, .int .i64 z2, .slice none 0 0, v2, .slice none 0 0, .slice none 0 0, .slice none 0 0]
theorem bksl_size (z : Int) (v : Value) : (Try.prog.info? 28).map (·.size) = some (bksl z v).length := by kernel_rfl
theorem bk_ldm {W : World} {b o : Nat} {z : Int} {v : Value} (h : W.rangeAt b o (bksl z v)) : (ldRow 28 (.pointer (some ⟨b, o, none⟩))).run Try.prog W = .ok (.agg (bks z v)) W :=
  ldRow_mid h Try.underlying28 rfl (bksl_size z v)
theorem bk2_r1 {W : World} {g : Nat} {z1 z2 : Int} {v1 v2 : Value} (h : W.heap[g]? = some (.cells (bk2 z1 v1 z2 v2) 28 (0, 0))) : W.rangeAt g 0 (bksl z1 v1) := fun i u hu => by
  rw [Nat.zero_add]
  exact (cellAt h i).trans (by
    rcases i with _ | _ | _ | _ | _ | _ | i
    all_goals first | exact hu | (simp [bksl] at hu))
theorem bk2_r2 {W : World} {g : Nat} {z1 z2 : Int} {v1 v2 : Value} (h : W.heap[g]? = some (.cells (bk2 z1 v1 z2 v2) 28 (0, 0))) : W.rangeAt g 6 (bksl z2 v2) := fun i u hu => by
  exact (cellAt h (6 + i)).trans (by
    rcases i with _ | _ | _ | _ | _ | _ | i
    all_goals first | exact hu | (simp [bksl] at hu))
theorem cf_near : ∀ args w, (callFunc 9 args).run Try.prog w = .ok (.enter 9 args) w := fun args w => by go_simp
theorem cf_slist : ∀ args w, (callFunc 17 args).run Try.prog w = .ok (.enter 17 args) w := fun args w => by go_simp
theorem cf_rall : ∀ args w, (callFunc 19 args).run Try.prog w = .ok (.enter 19 args) w := fun args w => by go_simp
theorem cf_makeq : ∀ args w, (callFunc 10 args).run Try.prog w = .ok (.enter 10 args) w := fun args w => by go_simp
theorem fa_bk0 {b : Nat} (W : World) : (Instr.fieldAt 28 (.pointer (some ⟨b, 0, none⟩)) 0).run Try.prog W = .ok (.pointer (some ⟨b, 0, none⟩)) W := by
  go_simp
theorem ix_bk0 {g : Nat} (W : World) : (Instr.indexAt 32 (.slice (some ⟨g, 0, none⟩) 2 2) (.int .i64 0)).run Try.prog W = .ok (.pointer (some ⟨g, 0, none⟩)) W := by
  go_simp
theorem ix_bk1 {g : Nat} (W : World) : (Instr.indexAt 32 (.slice (some ⟨g, 0, none⟩) 2 2) (.int .i64 1)).run Try.prog W = .ok (.pointer (some ⟨g, 6, none⟩)) W := by
  go_simp
theorem al_bk (W : World) : (Instr.alloc 28 true (.tuple #[])).run Try.prog W = .ok (.pointer (some ⟨W.heap.size, 0, none⟩)) (W.alloc (.cells #[.int .i64 0, .slice none 0 0, .slice none 0 0, .slice none 0 0, .slice none 0 0, .slice none 0 0] 28)) := by
  go_simp
section
variable {ev : Operand → Value} {o : Oper} {x y u : Operand} {w : World}
theorem op_bk {z : Int} {a : Option Addr} {n c : Nat} (ho : o.op = .build 28 #[(0, x), (2, y)]) (hx : ev x = .int .i64 z) (hy : ev y = .slice a n c) : (execOp ev o).run Try.prog w = .ok (.value (.agg (bks z (.slice a n c)))) w := by
  unfold execOp
  rw [ho]
  unfold bks
  go_simp
theorem op_b2 {z1 z2 : Int} {v1 v2 : Value} (ho : o.op = .buildSlice 32 2 #[(0, x), (1, y)]) (hx : ev x = .agg (bks z1 v1)) (hy : ev y = .agg (bks z2 v2)) : (execOp ev o).run Try.prog w = .ok (.value (.slice (some ⟨w.heap.size, 0, none⟩) 2 2)) (w.alloc (.cells (bk2 z1 v1 z2 v2) 28)) := by
  unfold bks at hx hy
  unfold execOp
  rw [ho]
  unfold bk2
  go_simp
theorem op_b3 {g1 g2 g3 : Nat} (ho : o.op = .buildSlice 34 3 #[(0, x), (1, y), (2, u)]) (hx : ev x = .slice (some ⟨g1, 0, none⟩) 2 2) (hy : ev y = .slice (some ⟨g2, 0, none⟩) 2 2) (hu : ev u = .slice (some ⟨g3, 0, none⟩) 2 2) : (execOp ev o).run Try.prog w = .ok (.value (.slice (some ⟨w.heap.size, 0, none⟩) 3 3)) (w.alloc (.cells #[.slice (some ⟨g1, 0, none⟩) 2 2, .slice (some ⟨g2, 0, none⟩) 2 2, .slice (some ⟨g3, 0, none⟩) 2 2] 32)) := by
  unfold execOp
  rw [ho]
  go_simp
theorem op_ln3 {a : Option Addr} {n c : Nat} (ho : o.op = .call { callee := .builtin .len, args := #[x], argTypes := #[34] }) (hx : ev x = .slice a n c) : (execOp ev o).run Try.prog w = .ok (.value (.int .i64 n)) w := by
  unfold execOp
  rw [ho]
  go_simp
theorem op_nei {a : Int} (ho : o.op = .binOp .neq 3 x y 3) (hx : ev x = .int .i64 a) (hy : ev y = .int .i64 a) : (execOp ev o).run Try.prog w = .ok (.value (.bool false)) w := by
  unfold execOp
  rw [ho]
  simp only [hx, hy]
  go_simp
end
theorem stm_bk {W : World} {g : Nat} (hg : W.heap[g]? = some (.cells #[.int .i64 0, .slice none 0 0, .slice none 0 0, .slice none 0 0, .slice none 0 0, .slice none 0 0] 28 (0, 0))) (z : Int) (v : Value) (hv : v.oneCell' = true) :
    ∃ W', (stRow 28 (.pointer (some ⟨g, 0, none⟩)) (.agg (bks z v))).run Try.prog W = .ok () W' ∧ W'.heap[g]? = some (.cells (bks z v) 28 (0, 0)) ∧ (∀ B w, Below B w W → B ≤ w.heap.size → B ≤ g → Below B w W') ∧ ∀ k, k ≠ g → W'.heap[k]? = W.heap[k]? := by
  have ht : W.there g 0 (bks z v).size := fun j hj => by
    refine ⟨?_, by simp [World.frozen?, hg]⟩
    have h3 : j < 6 := hj
    rw [cellAt hg, Nat.zero_add]
    rcases j with _ | _ | _ | _ | _ | _ | j
    all_goals first | rfl | omega
  have hone : (bks z v).all (·.oneCell') = true := by unfold bks; simp; exact ⟨rfl, rfl, hv, rfl⟩
  refine ⟨_, stRow_mid ht (bk_size z v) hone, (setCells_heap _ _ _ _ _ _ _ hg).trans rfl, fun B w hB h0 hg' => hB.grown (setCells_grown _ _ _ _) (Nat.le_trans h0 hB.size) fun k hk => by cases hk; exact hg', fun k hk => ?_⟩
  show (((((((W.setCell _ _).setCell _ _).setCell _ _).setCell _ _).setCell _ _).setCell _ _)).heap[k]? = _
  rw [Below.heap_setCell _ _ _ _ hk, Below.heap_setCell _ _ _ _ hk, Below.heap_setCell _ _ _ _ hk, Below.heap_setCell _ _ _ _ hk, Below.heap_setCell _ _ _ _ hk, Below.heap_setCell _ _ _ _ hk]
/-- the two boxed books: their last periods and rows -/
structure MrW (W : World) (B : Nat) (w : World) (za zb : Int) (va vb : Value) : Prop where
  a0 : W.cell? ⟨B, 0, none⟩ = some (.int .i64 za)
  a2 : W.cell? ⟨B, 2, none⟩ = some va
  b0 : W.cell? ⟨B + 1, 0, none⟩ = some (.int .i64 zb)
  b2 : W.cell? ⟨B + 1, 2, none⟩ = some vb
  bel : Below B w W
  lt : B + 1 < W.heap.size
theorem MrW.next {W W' : World} {B k : Nat} {w : World} {za zb : Int} {va vb : Value} (h : MrW W B w za zb va vb) (hB : Below k W W') (hk : B + 1 < k) : MrW W' B w za zb va vb :=
  ⟨(World.cell?_of_block (a := ⟨B, 0, none⟩) (hB.block B (by omega))).trans h.a0, (World.cell?_of_block (a := ⟨B, 2, none⟩) (hB.block B (by omega))).trans h.a2, (World.cell?_of_block (a := ⟨B + 1, 0, none⟩) (hB.block (B + 1) (by omega))).trans h.b0, (World.cell?_of_block (a := ⟨B + 1, 2, none⟩) (hB.block (B + 1) (by omega))).trans h.b2, h.bel.trans (hB.mono (by omega)), Nat.lt_of_lt_of_le h.lt hB.size⟩
/-- a pair of books that lie one behind the other -/
structure PrV (W : World) (g : Nat) (z1 : Int) (v1 : Value) (l1 : List RW.Rw) (z2 : Int) (v2 : Value) (l2 : List RW.Rw) : Prop where
  g : W.heap[g]? = some (.cells (bk2 z1 v1 z2 v2) 28 (0, 0))
  r1 : RwsV W v1 l1
  r2 : RwsV W v2 l2
  n1 : RW.NearR l1
  n2 : RW.NearR l2
  s1 : l1.length ≤ 50
  s2 : l2.length ≤ 50
theorem PrV.next {W W' : World} {g : Nat} {z1 : Int} {v1 : Value} {l1 : List RW.Rw} {z2 : Int} {v2 : Value} {l2 : List RW.Rw} (h : PrV W g z1 v1 l1 z2 v2 l2) (hB : Below W.heap.size W W') : PrV W' g z1 v1 l1 z2 v2 l2 :=
  ⟨(hB.block _ (Array.getElem?_eq_some_iff.1 h.g).1).trans h.g, h.r1.next hB, h.r2.next hB, h.n1, h.n2, h.s1, h.s2⟩
namespace RW
theorem stAll_len (b a : List Rw) (z : Int) : (stAll b a z).length ≤ b.length + a.length := by
  have h1 := List.length_filter_le (fun s : RW.St => decide (0 < s.2.2.length)) ((RW.hols (b ++ a)).map (RW.stOf b a z))
  have h2 := RW.hols_len (b ++ a)
  rw [List.length_map] at h1
  rw [List.length_append] at h2
  unfold RW.stAll
  omega
theorem stAll_lns {b a : List Rw} {z : Int} {x : St} (h : x ∈ stAll b a z) : x.2.2.length ≤ b.length + a.length := by
  rw [RW.st_of h]
  exact RW.lns_len b a x.1
end RW
set_option maxRecDepth 10000 in
set_option maxHeartbeats 8000000 in
theorem mr_any (za zb : Int) (pa1 pa2 pa3 pa4 pa5 pb1 pb2 pb3 pb4 pb5 : Option Addr) (na1 na2 na3 na4 na5 nb1 nb2 nb3 nb4 nb5 ca1 ca2 ca3 ca4 ca5 cb1 cb2 cb3 cb4 cb5 : Nat) (la lb : List RW.Rw) (hla : la.length ≤ 9223372036854775807) (hlb : lb.length ≤ 9223372036854775807) (vx vy : Value) (xs ys : List RW.Ln) (hx : xs.length ≤ 9223372036854775807) (hy : ys.length ≤ 9223372036854775807) (hxb : ∀ x ∈ xs, RW.i64t x) (hyb : ∀ x ∈ ys, RW.i64t x) (last hd : Int) (hl0 : -9223372036854775808 ≤ last) (hl1 : last ≤ 9223372036854775807) (hd0 : -9223372036854775808 ≤ hd) (hd1 : hd ≤ 9223372036854775807) (w : World) (hva : RwsV w (.slice pa2 na2 ca2) la) (hvb : RwsV w (.slice pb2 nb2 cb2) lb) (hvx : LnsV w vx xs) (hvy : LnsV w vy ys) :
    Calls Try.prog 3 #[.agg #[.int .i64 za, .slice pa1 na1 ca1, .slice pa2 na2 ca2, .slice pa3 na3 ca3, .slice pa4 na4 ca4, .slice pa5 na5 ca5], .agg #[.int .i64 zb, .slice pb1 nb1 cb1, .slice pb2 nb2 cb2, .slice pb3 nb3 cb3, .slice pb4 nb4 cb4, .slice pb5 nb5 cb5], vx, vy, .int .i64 last, .int .i64 hd] w fun e w' => e = .returned (.bool true) ∧ Below w.heap.size w w' := by
  obtain ⟨B, hB⟩ : ∃ B, B = w.heap.size := ⟨_, rfl⟩
  have hBH := hide hB
  have hNa := hide (fun W (hW : Below B w W) => near_any (.slice pa2 na2 ca2) la hla W (hva.next (hB ▸ hW)))
  have hNb := hide (fun W (hW : Below B w W) => near_any (.slice pb2 nb2 cb2) lb hlb W (hvb.next (hB ▸ hW)))
  have hMx := hide (fun W (hW : Below B w W) => make_any vx xs hx hxb last hl0 hl1 W (hvx.next (hB ▸ hW)))
  have hMy := hide (fun W (hW : Below B w W) => make_any vy ys hy hyb last hl0 hl1 W (hvy.next (hB ▸ hW)))
  have hP := hide (fun W => pick_any hd 5 hd0 hd1 (by decide) (by decide) W)
  obtain ⟨A, hA⟩ : ∃ l, l = RW.mkA xs := ⟨_, rfl⟩
  obtain ⟨E, hE⟩ : ∃ l, l = RW.mkA ys := ⟨_, rfl⟩
  have hAk := hide (show RW.NearR A ∧ A.length ≤ 50 by have h1 := RW.mkA_len xs; rw [hA]; exact ⟨RW.mkA_near xs, by omega⟩)
  have hEk := hide (show RW.NearR E ∧ E.length ≤ 50 by have h1 := RW.mkA_len ys; rw [hE]; exact ⟨RW.mkA_near ys, by omega⟩)
  obtain ⟨y, hy'⟩ : ∃ y, y = RW.pickI last 8 := ⟨_, rfl⟩
  rw [← hA, ← hy'] at hMx
  rw [← hE, ← hy'] at hMy
  obtain ⟨M, hM⟩ : ∃ l, l = RW.nrL la := ⟨_, rfl⟩
  obtain ⟨N, hN⟩ : ∃ l, l = RW.nrL lb := ⟨_, rfl⟩
  have hMk := hide (show RW.NearR M ∧ M.length ≤ 50 by have h1 := RW.nrL_len la; rw [hM]; exact ⟨RW.nrL_near la, by omega⟩)
  have hNk := hide (show RW.NearR N ∧ N.length ≤ 50 by have h1 := RW.nrL_len lb; rw [hN]; exact ⟨RW.nrL_near lb, by omega⟩)
  rw [← hM] at hNa
  rw [← hN] at hNb
  have k0 := RW.pickI_bd hd 5 (by decide)
  obtain ⟨p, hp⟩ : ∃ p, p = RW.pickI hd 5 := ⟨_, rfl⟩
  rw [← hp] at hP k0
  obtain ⟨k1, k2⟩ := k0
  have hS0 := hide (show MrW ((w.alloc (.cells #[.int .i64 za, .slice pa1 na1 ca1, .slice pa2 na2 ca2, .slice pa3 na3 ca3, .slice pa4 na4 ca4, .slice pa5 na5 ca5] 28)).alloc (.cells #[.int .i64 zb, .slice pb1 nb1 cb1, .slice pb2 nb2 cb2, .slice pb3 nb3 cb3, .slice pb4 nb4 cb4, .slice pb5 nb5 cb5] 28)) B w za zb (.slice pa2 na2 ca2) (.slice pb2 nb2 cb2) from by
    have g0 : ((w.alloc (.cells #[.int .i64 za, .slice pa1 na1 ca1, .slice pa2 na2 ca2, .slice pa3 na3 ca3, .slice pa4 na4 ca4, .slice pa5 na5 ca5] 28)).alloc (.cells #[.int .i64 zb, .slice pb1 nb1 cb1, .slice pb2 nb2 cb2, .slice pb3 nb3 cb3, .slice pb4 nb4 cb4, .slice pb5 nb5 cb5] 28)).heap[B]? = some (.cells #[.int .i64 za, .slice pa1 na1 ca1, .slice pa2 na2 ca2, .slice pa3 na3 ca3, .slice pa4 na4 ca4, .slice pa5 na5 ca5] 28 (0, 0)) := by rw [hB]; exact alloc_old _ _ (alloc_at1 _ _)
    have g1 : ((w.alloc (.cells #[.int .i64 za, .slice pa1 na1 ca1, .slice pa2 na2 ca2, .slice pa3 na3 ca3, .slice pa4 na4 ca4, .slice pa5 na5 ca5] 28)).alloc (.cells #[.int .i64 zb, .slice pb1 nb1 cb1, .slice pb2 nb2 cb2, .slice pb3 nb3 cb3, .slice pb4 nb4 cb4, .slice pb5 nb5 cb5] 28)).heap[B + 1]? = some (.cells #[.int .i64 zb, .slice pb1 nb1 cb1, .slice pb2 nb2 cb2, .slice pb3 nb3 cb3, .slice pb4 nb4 cb4, .slice pb5 nb5 cb5] 28 (0, 0)) := by
      rw [hB, ← alloc_size w (.cells #[.int .i64 za, .slice pa1 na1 ca1, .slice pa2 na2 ca2, .slice pa3 na3 ca3, .slice pa4 na4 ca4, .slice pa5 na5 ca5] 28)]; exact alloc_at1 _ _
    exact ⟨cellAt g0 0, cellAt g0 2, cellAt g1 0, cellAt g1 2, by rw [hB]; exact alloc_bel (alloc_bel (Below.refl _ _) (Nat.le_refl _) _) (Nat.le_refl _) _, (Array.getElem?_eq_some_iff.1 g1).1⟩)
  rw [← hB]
  clear hp hA hE hM hN hy' hva hvb hvx hvy hxb hyb hx hy hla hlb hl0 hl1 hd0 hd1
  go_enter Try.func3, Try.ntmps3
  go_upto_region 1 with fail
  rw [← hB]
  refine gen_w (fun W => MrW W B w za zb (.slice pa2 na2 ca2) (.slice pb2 nb2 cb2)) hS0.out ?_
  clear hS0 hB
  intro w0 hS0
  have hS0H := hide hS0
  clear hS0
  go_upto_region 2 with (go_at_call 8; refine (sane_any _).mono ?_; rintro e w1 ⟨rfl, hB1⟩; have hS1 := hide (hS0H.out.next hB1 hS0H.out.lt); clear hB1)
  clear hS0H
  obtain ⟨B1, hBe'⟩ : ∃ b, b = w1.heap.size := ⟨_, rfl⟩
  have hBe := hide hBe'
  have hsz := hide (fun W (hW : Below B1 w1 W) => (show B1 ≤ W.heap.size by rw [hBe']; exact hW.size))
  have hSx := hide (fun W (hW : Below B1 w1 W) => hS1.out.next hW (by rw [hBe']; exact hS1.out.lt))
  clear hBe'
  go_cut [14] (fun s wx => ∃ g v1, s = .pointer (some ⟨g, 0, none⟩) ∧ wx.heap[g]? = some (.cells (bks za v1) 28 (0, 0)) ∧ RwsO wx B1 v1 M ∧ Below B1 w1 wx)
  case first =>
    refine wp_region_k (fun _ W => Below B1 w1 W) (fun _ => True) [4, 6, 7] (.op 0 (.op 1 (.op 2 (.op 3 (.fork 4 (.op 5 (.op 6 (.op 7 .nil))) 6 (.op 4 (.op 5 (.op 7 .nil)))))))) (by kernel_rfl) (by kernel_rfl) (by rfl) (by kernel_rfl) (by rw [hBe.out]; exact (Below.refl w1.heap.size w1).drew) trivial ?_
    refine k_val (.pointer (some ⟨B, 0, none⟩)) (by apply opN; repeat' (first | apply OpAt.z | apply OpAt.s)) (by rfl) (by rfl) (fun _ W hS => op_fa rfl rfl (fa_bk0 W)) ?_
    simp only [Act.put, List.setIfInBounds_toArray, List.set_cons_zero, List.set_cons_succ]
    refine k_val (.int .i64 za) (by apply opN; repeat' (first | apply OpAt.z | apply OpAt.s)) (by rfl) (by rfl) (fun _ W hS => op_ld rfl rfl (int_ld (hSx.out W hS).a0)) ?_
    simp only [Act.put, List.setIfInBounds_toArray, List.set_cons_zero, List.set_cons_succ]
    refine k_val (.pointer (some ⟨B, 2, none⟩)) (by apply opN; repeat' (first | apply OpAt.z | apply OpAt.s)) (by rfl) (by rfl) (fun _ W hS => op_fa rfl rfl (fa_bk W)) ?_
    simp only [Act.put, List.setIfInBounds_toArray, List.set_cons_zero, List.set_cons_succ]
    refine k_val (.slice pa2 na2 ca2) (by apply opN; repeat' (first | apply OpAt.z | apply OpAt.s)) (by rfl) (by rfl) (fun _ W hS => op_ld rfl rfl (sl_ld (hSx.out W hS).a2)) ?_
    simp only [Act.put, List.setIfInBounds_toArray, List.set_cons_zero, List.set_cons_succ]
    refine h_fork ?_ ?_
    · refine k_one (fun K' u => ∃ p1 c1, u = .slice p1 M.length c1 ∧ K' = fun W => RwsO W B1 (.slice p1 M.length c1) M) (by apply opN; repeat' (first | apply OpAt.z | apply OpAt.s)) (by rfl) (by rfl) (by rfl) (fun W hCW hK => ?_) ?_
      · refine op_x1 rfl rfl rfl cf_near ?_
        refine (hNa.out W (hSx.out W hCW).bel).mono ?_
        rintro e W' ⟨v1, rfl, h4, h5⟩
        obtain ⟨p1, c1, e1⟩ := RwsO.form h4
        subst e1
        exact ⟨_, rfl, hCW.trans (h5.mono (hsz.out W hCW)), _, own_base h4 (hsz.out W hCW), p1, c1, rfl, rfl⟩
      rintro _ _ ⟨p1, c1, rfl, rfl⟩
      simp only [Act.put, List.setIfInBounds_toArray, List.set_cons_zero, List.set_cons_succ]
      refine k_val (.agg (bks za (.slice p1 M.length c1))) (by apply opN; repeat' (first | apply OpAt.z | apply OpAt.s)) (by rfl) (by rfl) (fun _ W hS => op_bk rfl rfl rfl) ?_
      simp only [Act.put, List.setIfInBounds_toArray, List.set_cons_zero, List.set_cons_succ]
      refine k_step (fun K' u => ∃ g, u = .pointer (some ⟨g, 0, none⟩) ∧ K' = fun W => B1 ≤ g ∧ W.heap[g]? = some (.cells #[.int .i64 0, .slice none 0 0, .slice none 0 0, .slice none 0 0, .slice none 0 0, .slice none 0 0] 28 (0, 0)) ∧ RwsO W B1 (.slice p1 M.length c1) M) (by apply opN; repeat' (first | apply OpAt.z | apply OpAt.s)) (by rfl) (by rfl) (by rfl) (fun W hCW hK => ?_) ?_
      · exact xup_val (op_al rfl (al_bk W)) ⟨alloc_bel hCW (Nat.le_of_eq hBe.out) _, _, ⟨hsz.out W hCW, alloc_at1 W _, RwsO.next hK (alloc_bel (Below.refl _ _) (Nat.le_refl _) _)⟩, W.heap.size, rfl, rfl⟩
      rintro _ _ ⟨g, rfl, rfl⟩
      simp only [Act.put, List.setIfInBounds_toArray, List.set_cons_zero, List.set_cons_succ]
      refine k_step (fun K' u => K' = fun W => W.heap[g]? = some (.cells (bks za (.slice p1 M.length c1)) 28 (0, 0)) ∧ RwsO W B1 (.slice p1 M.length c1) M) (by apply opN; repeat' (first | apply OpAt.z | apply OpAt.s)) (by rfl) (by rfl) (by rfl) (fun W hCW hK => ?_) ?_
      · obtain ⟨W', r1, r2, r3, r4⟩ := stm_bk hK.2.1 za (.slice p1 M.length c1) rfl
        exact xup_skip (op_st rfl rfl rfl r1) ⟨r3 _ _ hCW (Nat.le_of_eq hBe.out) hK.1, _, ⟨r2, own_keep hK.2.2 fun k hk => r4 k (fun e => by
            obtain ⟨c1, k1⟩ := (own_block hK.2.2 hk).2.2
            exact blocks_ne k1 hK.2.1 (by decide) e)⟩, rfl⟩
      rintro _ _ rfl
      simp only [Act.put]
      refine k_nil ?_
      intro W hCW hK
      have hG9 := hide (show ∃ g' v', (Value.pointer (some ⟨g, 0, none⟩)) = .pointer (some ⟨g', 0, none⟩) ∧ W.heap[g']? = some (.cells (bks za v') 28 (0, 0)) ∧ RwsO W B1 v' M ∧ Below B1 w1 W from ⟨g, _, rfl, hK.1, hK.2, hCW⟩)
      clear hCW hK
      go_wp2
      all_goals go_meet
      all_goals exact hG9.out
    · refine k_one (fun K' u => ∃ g, u = .pointer (some ⟨g, 0, none⟩) ∧ K' = fun W => B1 ≤ g ∧ W.heap[g]? = some (.cells #[.int .i64 0, .slice none 0 0, .slice none 0 0, .slice none 0 0, .slice none 0 0, .slice none 0 0] 28 (0, 0))) (by apply opN; repeat' (first | apply OpAt.z | apply OpAt.s)) (by rfl) (by rfl) (by rfl) (fun W hCW hK => ?_) ?_
      · exact xup_val (op_al rfl (al_bk W)) ⟨alloc_bel hCW (Nat.le_of_eq hBe.out) _, _, ⟨hsz.out W hCW, alloc_at1 W _⟩, W.heap.size, rfl, rfl⟩
      rintro _ _ ⟨g, rfl, rfl⟩
      simp only [Act.put, List.setIfInBounds_toArray, List.set_cons_zero, List.set_cons_succ]
      refine k_step (fun K' u => ∃ p1 c1, u = .slice p1 M.length c1 ∧ K' = fun W => B1 ≤ g ∧ W.heap[g]? = some (.cells #[.int .i64 0, .slice none 0 0, .slice none 0 0, .slice none 0 0, .slice none 0 0, .slice none 0 0] 28 (0, 0)) ∧ RwsO W B1 (.slice p1 M.length c1) M) (by apply opN; repeat' (first | apply OpAt.z | apply OpAt.s)) (by rfl) (by rfl) (by rfl) (fun W hCW hK => ?_) ?_
      · refine op_x1 rfl rfl rfl cf_near ?_
        refine (hNa.out W (hSx.out W hCW).bel).mono ?_
        rintro e W' ⟨v1, rfl, h4, h5⟩
        obtain ⟨p1, c1, e1⟩ := RwsO.form h4
        subst e1
        exact ⟨_, rfl, hCW.trans (h5.mono (hsz.out W hCW)), _, ⟨hK.1, (h5.block _ (Array.getElem?_eq_some_iff.1 hK.2).1).trans hK.2, own_base h4 (hsz.out W hCW)⟩, p1, c1, rfl, rfl⟩
      rintro _ _ ⟨p1, c1, rfl, rfl⟩
      simp only [Act.put, List.setIfInBounds_toArray, List.set_cons_zero, List.set_cons_succ]
      refine k_val (.agg (bks za (.slice p1 M.length c1))) (by apply opN; repeat' (first | apply OpAt.z | apply OpAt.s)) (by rfl) (by rfl) (fun _ W hS => op_bk rfl rfl rfl) ?_
      simp only [Act.put, List.setIfInBounds_toArray, List.set_cons_zero, List.set_cons_succ]
      refine k_step (fun K' u => K' = fun W => W.heap[g]? = some (.cells (bks za (.slice p1 M.length c1)) 28 (0, 0)) ∧ RwsO W B1 (.slice p1 M.length c1) M) (by apply opN; repeat' (first | apply OpAt.z | apply OpAt.s)) (by rfl) (by rfl) (by rfl) (fun W hCW hK => ?_) ?_
      · obtain ⟨W', r1, r2, r3, r4⟩ := stm_bk hK.2.1 za (.slice p1 M.length c1) rfl
        exact xup_skip (op_st rfl rfl rfl r1) ⟨r3 _ _ hCW (Nat.le_of_eq hBe.out) hK.1, _, ⟨r2, own_keep hK.2.2 fun k hk => r4 k (fun e => by
            obtain ⟨c1, k1⟩ := (own_block hK.2.2 hk).2.2
            exact blocks_ne k1 hK.2.1 (by decide) e)⟩, rfl⟩
      rintro _ _ rfl
      simp only [Act.put]
      refine k_nil ?_
      intro W hCW hK
      have hG9 := hide (show ∃ g' v', (Value.pointer (some ⟨g, 0, none⟩)) = .pointer (some ⟨g', 0, none⟩) ∧ W.heap[g']? = some (.cells (bks za v') 28 (0, 0)) ∧ RwsO W B1 v' M ∧ Below B1 w1 W from ⟨g, _, rfl, hK.1, hK.2, hCW⟩)
      clear hCW hK
      go_wp2
      all_goals go_meet
      all_goals exact hG9.out
  case rest =>
  obtain ⟨gk, vk, rfl, hgk, hvk, hBk⟩ := hcut
  obtain ⟨w2, hw2⟩ : ∃ x, x = wc := ⟨_, rfl⟩
  subst hw2
  have hS2 := hide (hSx.out w2 hBk)
  have hk2 := hide (show w2.heap[gk]? = some (.cells (bks za vk) 28 (0, 0)) ∧ RwsV w2 vk M from ⟨hgk, RwsO.row hvk⟩)
  clear hgk hvk hBk hS1 hSx hsz hBe hNa
  go_upto_region 3 with fail
  obtain ⟨B2, hBe'⟩ : ∃ b, b = w2.heap.size := ⟨_, rfl⟩
  have hBe := hide hBe'
  have hsz := hide (fun W (hW : Below B2 w2 W) => (show B2 ≤ W.heap.size by rw [hBe']; exact hW.size))
  have hSx := hide (fun W (hW : Below B2 w2 W) => hS2.out.next hW (by rw [hBe']; exact hS2.out.lt))
  clear hBe'
  go_cut [15] (fun s wx => ∃ g v1, s = .pointer (some ⟨g, 0, none⟩) ∧ wx.heap[g]? = some (.cells (bks zb v1) 28 (0, 0)) ∧ RwsO wx B2 v1 N ∧ Below B2 w2 wx)
  case first =>
    refine wp_region_k (fun _ W => Below B2 w2 W) (fun _ => True) [4, 6, 7] (.op 0 (.op 1 (.op 2 (.op 3 (.fork 4 (.op 5 (.op 6 (.op 7 .nil))) 6 (.op 4 (.op 5 (.op 7 .nil)))))))) (by kernel_rfl) (by kernel_rfl) (by rfl) (by kernel_rfl) (by rw [hBe.out]; exact (Below.refl w2.heap.size w2).drew) trivial ?_
    refine k_val (.pointer (some ⟨B + 1, 0, none⟩)) (by apply opN; repeat' (first | apply OpAt.z | apply OpAt.s)) (by rfl) (by rfl) (fun _ W hS => op_fa rfl rfl (fa_bk0 W)) ?_
    simp only [Act.put, List.setIfInBounds_toArray, List.set_cons_zero, List.set_cons_succ]
    refine k_val (.int .i64 zb) (by apply opN; repeat' (first | apply OpAt.z | apply OpAt.s)) (by rfl) (by rfl) (fun _ W hS => op_ld rfl rfl (int_ld (hSx.out W hS).b0)) ?_
    simp only [Act.put, List.setIfInBounds_toArray, List.set_cons_zero, List.set_cons_succ]
    refine k_val (.pointer (some ⟨B + 1, 2, none⟩)) (by apply opN; repeat' (first | apply OpAt.z | apply OpAt.s)) (by rfl) (by rfl) (fun _ W hS => op_fa rfl rfl (fa_bk W)) ?_
    simp only [Act.put, List.setIfInBounds_toArray, List.set_cons_zero, List.set_cons_succ]
    refine k_val (.slice pb2 nb2 cb2) (by apply opN; repeat' (first | apply OpAt.z | apply OpAt.s)) (by rfl) (by rfl) (fun _ W hS => op_ld rfl rfl (sl_ld (hSx.out W hS).b2)) ?_
    simp only [Act.put, List.setIfInBounds_toArray, List.set_cons_zero, List.set_cons_succ]
    refine h_fork ?_ ?_
    · refine k_one (fun K' u => ∃ p1 c1, u = .slice p1 N.length c1 ∧ K' = fun W => RwsO W B2 (.slice p1 N.length c1) N) (by apply opN; repeat' (first | apply OpAt.z | apply OpAt.s)) (by rfl) (by rfl) (by rfl) (fun W hCW hK => ?_) ?_
      · refine op_x1 rfl rfl rfl cf_near ?_
        refine (hNb.out W (hSx.out W hCW).bel).mono ?_
        rintro e W' ⟨v1, rfl, h4, h5⟩
        obtain ⟨p1, c1, e1⟩ := RwsO.form h4
        subst e1
        exact ⟨_, rfl, hCW.trans (h5.mono (hsz.out W hCW)), _, own_base h4 (hsz.out W hCW), p1, c1, rfl, rfl⟩
      rintro _ _ ⟨p1, c1, rfl, rfl⟩
      simp only [Act.put, List.setIfInBounds_toArray, List.set_cons_zero, List.set_cons_succ]
      refine k_val (.agg (bks zb (.slice p1 N.length c1))) (by apply opN; repeat' (first | apply OpAt.z | apply OpAt.s)) (by rfl) (by rfl) (fun _ W hS => op_bk rfl rfl rfl) ?_
      simp only [Act.put, List.setIfInBounds_toArray, List.set_cons_zero, List.set_cons_succ]
      refine k_step (fun K' u => ∃ g, u = .pointer (some ⟨g, 0, none⟩) ∧ K' = fun W => B2 ≤ g ∧ W.heap[g]? = some (.cells #[.int .i64 0, .slice none 0 0, .slice none 0 0, .slice none 0 0, .slice none 0 0, .slice none 0 0] 28 (0, 0)) ∧ RwsO W B2 (.slice p1 N.length c1) N) (by apply opN; repeat' (first | apply OpAt.z | apply OpAt.s)) (by rfl) (by rfl) (by rfl) (fun W hCW hK => ?_) ?_
      · exact xup_val (op_al rfl (al_bk W)) ⟨alloc_bel hCW (Nat.le_of_eq hBe.out) _, _, ⟨hsz.out W hCW, alloc_at1 W _, RwsO.next hK (alloc_bel (Below.refl _ _) (Nat.le_refl _) _)⟩, W.heap.size, rfl, rfl⟩
      rintro _ _ ⟨g, rfl, rfl⟩
      simp only [Act.put, List.setIfInBounds_toArray, List.set_cons_zero, List.set_cons_succ]
      refine k_step (fun K' u => K' = fun W => W.heap[g]? = some (.cells (bks zb (.slice p1 N.length c1)) 28 (0, 0)) ∧ RwsO W B2 (.slice p1 N.length c1) N) (by apply opN; repeat' (first | apply OpAt.z | apply OpAt.s)) (by rfl) (by rfl) (by rfl) (fun W hCW hK => ?_) ?_
      · obtain ⟨W', r1, r2, r3, r4⟩ := stm_bk hK.2.1 zb (.slice p1 N.length c1) rfl
        exact xup_skip (op_st rfl rfl rfl r1) ⟨r3 _ _ hCW (Nat.le_of_eq hBe.out) hK.1, _, ⟨r2, own_keep hK.2.2 fun k hk => r4 k (fun e => by
            obtain ⟨c1, k1⟩ := (own_block hK.2.2 hk).2.2
            exact blocks_ne k1 hK.2.1 (by decide) e)⟩, rfl⟩
      rintro _ _ rfl
      simp only [Act.put]
      refine k_nil ?_
      intro W hCW hK
      have hG9 := hide (show ∃ g' v', (Value.pointer (some ⟨g, 0, none⟩)) = .pointer (some ⟨g', 0, none⟩) ∧ W.heap[g']? = some (.cells (bks zb v') 28 (0, 0)) ∧ RwsO W B2 v' N ∧ Below B2 w2 W from ⟨g, _, rfl, hK.1, hK.2, hCW⟩)
      clear hCW hK
      go_wp2
      all_goals go_meet
      all_goals exact hG9.out
    · refine k_one (fun K' u => ∃ g, u = .pointer (some ⟨g, 0, none⟩) ∧ K' = fun W => B2 ≤ g ∧ W.heap[g]? = some (.cells #[.int .i64 0, .slice none 0 0, .slice none 0 0, .slice none 0 0, .slice none 0 0, .slice none 0 0] 28 (0, 0))) (by apply opN; repeat' (first | apply OpAt.z | apply OpAt.s)) (by rfl) (by rfl) (by rfl) (fun W hCW hK => ?_) ?_
      · exact xup_val (op_al rfl (al_bk W)) ⟨alloc_bel hCW (Nat.le_of_eq hBe.out) _, _, ⟨hsz.out W hCW, alloc_at1 W _⟩, W.heap.size, rfl, rfl⟩
      rintro _ _ ⟨g, rfl, rfl⟩
      simp only [Act.put, List.setIfInBounds_toArray, List.set_cons_zero, List.set_cons_succ]
      refine k_step (fun K' u => ∃ p1 c1, u = .slice p1 N.length c1 ∧ K' = fun W => B2 ≤ g ∧ W.heap[g]? = some (.cells #[.int .i64 0, .slice none 0 0, .slice none 0 0, .slice none 0 0, .slice none 0 0, .slice none 0 0] 28 (0, 0)) ∧ RwsO W B2 (.slice p1 N.length c1) N) (by apply opN; repeat' (first | apply OpAt.z | apply OpAt.s)) (by rfl) (by rfl) (by rfl) (fun W hCW hK => ?_) ?_
      · refine op_x1 rfl rfl rfl cf_near ?_
        refine (hNb.out W (hSx.out W hCW).bel).mono ?_
        rintro e W' ⟨v1, rfl, h4, h5⟩
        obtain ⟨p1, c1, e1⟩ := RwsO.form h4
        subst e1
        exact ⟨_, rfl, hCW.trans (h5.mono (hsz.out W hCW)), _, ⟨hK.1, (h5.block _ (Array.getElem?_eq_some_iff.1 hK.2).1).trans hK.2, own_base h4 (hsz.out W hCW)⟩, p1, c1, rfl, rfl⟩
      rintro _ _ ⟨p1, c1, rfl, rfl⟩
      simp only [Act.put, List.setIfInBounds_toArray, List.set_cons_zero, List.set_cons_succ]
      refine k_val (.agg (bks zb (.slice p1 N.length c1))) (by apply opN; repeat' (first | apply OpAt.z | apply OpAt.s)) (by rfl) (by rfl) (fun _ W hS => op_bk rfl rfl rfl) ?_
      simp only [Act.put, List.setIfInBounds_toArray, List.set_cons_zero, List.set_cons_succ]
      refine k_step (fun K' u => K' = fun W => W.heap[g]? = some (.cells (bks zb (.slice p1 N.length c1)) 28 (0, 0)) ∧ RwsO W B2 (.slice p1 N.length c1) N) (by apply opN; repeat' (first | apply OpAt.z | apply OpAt.s)) (by rfl) (by rfl) (by rfl) (fun W hCW hK => ?_) ?_
      · obtain ⟨W', r1, r2, r3, r4⟩ := stm_bk hK.2.1 zb (.slice p1 N.length c1) rfl
        exact xup_skip (op_st rfl rfl rfl r1) ⟨r3 _ _ hCW (Nat.le_of_eq hBe.out) hK.1, _, ⟨r2, own_keep hK.2.2 fun k hk => r4 k (fun e => by
            obtain ⟨c1, k1⟩ := (own_block hK.2.2 hk).2.2
            exact blocks_ne k1 hK.2.1 (by decide) e)⟩, rfl⟩
      rintro _ _ rfl
      simp only [Act.put]
      refine k_nil ?_
      intro W hCW hK
      have hG9 := hide (show ∃ g' v', (Value.pointer (some ⟨g, 0, none⟩)) = .pointer (some ⟨g', 0, none⟩) ∧ W.heap[g']? = some (.cells (bks zb v') 28 (0, 0)) ∧ RwsO W B2 v' N ∧ Below B2 w2 W from ⟨g, _, rfl, hK.1, hK.2, hCW⟩)
      clear hCW hK
      go_wp2
      all_goals go_meet
      all_goals exact hG9.out
  case rest =>
  obtain ⟨gm, vm, rfl, hgm, hvm, hBm⟩ := hcut
  obtain ⟨w3, hw3⟩ : ∃ x, x = wc := ⟨_, rfl⟩
  subst hw3
  have hB23 := hide (show Below w2.heap.size w2 w3 by rw [← hBe.out]; exact hBm)
  obtain ⟨O, hO⟩ : ∃ b, b = w3.heap.size := ⟨_, rfl⟩
  clear hsz
  have hOe := hide hO
  have hsz := hide (fun W (hW : Below O w3 W) => (show O ≤ W.heap.size by rw [hO]; exact hW.size))
  have h3 := hide (fun W (hW : Below O w3 W) => (show MrW W B w za zb (.slice pa2 na2 ca2) (.slice pb2 nb2 cb2) ∧ W.heap[gk]? = some (.cells (bks za vk) 28 (0, 0)) ∧ RwsV W vk M ∧ W.heap[gm]? = some (.cells (bks zb vm) 28 (0, 0)) ∧ RwsV W vm N from by
    have hW' : Below w3.heap.size w3 W := hO ▸ hW
    exact ⟨(hSx.out w3 hBm).next hW' (hSx.out w3 hBm).lt, (hW'.block _ (Nat.lt_of_lt_of_le (Array.getElem?_eq_some_iff.1 hk2.out.1).1 hB23.out.size)).trans ((hB23.out.block _ (Array.getElem?_eq_some_iff.1 hk2.out.1).1).trans hk2.out.1), (hk2.out.2.next hB23.out).next hW', (hW'.block _ (Array.getElem?_eq_some_iff.1 hgm).1).trans hgm, (RwsO.row hvm).next hW'⟩))
  clear hgm hvm hBm hS2 hSx hBe hNb hk2 hB23 hO
  go_upto_region 4 with fail
  go_cut [49, 50, 51] (fun s n i wx => ∃ g', s = .slice (some ⟨g', 0, none⟩) 3 3 ∧ n = .int .i64 3 ∧ i = .int .i64 0 ∧ (∃ s0 s1 s2 : Nat, wx.heap[g']? = some (.cells #[.slice (some ⟨s0, 0, none⟩) 2 2, .slice (some ⟨s1, 0, none⟩) 2 2, .slice (some ⟨s2, 0, none⟩) 2 2] 32 (0, 0)) ∧ (∃ v1 v2, PrV wx s0 za v1 M zb v2 N) ∧ (∃ v1 v2, PrV wx s1 y v1 A y v2 E) ∧ ∃ v1 v2, PrV wx s2 za v1 M y v2 E) ∧ Below O w3 wx)
  case first =>
    refine wp_region_k (fun _ W => Below O w3 W) (fun _ => True) [2, 5, 8, 9, 13, 14, 15] (.op 0 (.op 1 (.op 3 (.op 4 (.op 6 (.op 7 (.op 10 (.op 11 (.op 12 (.op 17 (.fork 2 (.op 5 (.op 8 (.fork 9 (.op 13 (.op 14 (.op 15 (.op 16 .nil)))) 13 (.fork 9 (.op 14 (.op 15 (.op 16 .nil))) 14 (.op 9 (.op 15 (.op 16 .nil))))))) 5 (.fork 2 (.op 8 (.fork 9 (.op 13 (.op 14 (.op 15 (.op 16 .nil)))) 13 (.fork 9 (.op 14 (.op 15 (.op 16 .nil))) 14 (.op 9 (.op 15 (.op 16 .nil)))))) 8 (.fork3 2 (.fork 9 (.op 13 (.op 14 (.op 15 (.op 16 .nil)))) 13 (.fork 9 (.op 14 (.op 15 (.op 16 .nil))) 14 (.op 9 (.op 15 (.op 16 .nil))))) 9 (.fork 2 (.op 13 (.op 14 (.op 15 (.op 16 .nil)))) 13 (.fork 2 (.op 14 (.op 15 (.op 16 .nil))) 14 (.op 2 (.op 15 (.op 16 .nil))))) 13 (.fork3 2 (.fork 9 (.op 14 (.op 15 (.op 16 .nil))) 14 (.op 9 (.op 15 (.op 16 .nil)))) 9 (.fork 2 (.op 14 (.op 15 (.op 16 .nil))) 14 (.op 2 (.op 15 (.op 16 .nil)))) 14 (.fork 2 (.op 9 (.op 15 (.op 16 .nil))) 9 (.op 2 (.op 15 (.op 16 .nil)))))))))))))))))) (by kernel_rfl) (by kernel_rfl) (by rfl) (by kernel_rfl) (by rw [hOe.out]; exact (Below.refl w3.heap.size w3).drew) trivial ?_
    refine k_val (.agg (bks za vk)) (by apply opN; repeat' (first | apply OpAt.z | apply OpAt.s)) (by rfl) (by rfl) (fun _ W hS => op_ld rfl rfl (bk_ld (h3.out W hS).2.1)) ?_
    simp only [Act.put, List.setIfInBounds_toArray, List.set_cons_zero, List.set_cons_succ]
    refine k_val (.agg (bks zb vm)) (by apply opN; repeat' (first | apply OpAt.z | apply OpAt.s)) (by rfl) (by rfl) (fun _ W hS => op_ld rfl rfl (bk_ld (h3.out W hS).2.2.2.1)) ?_
    simp only [Act.put, List.setIfInBounds_toArray, List.set_cons_zero, List.set_cons_succ]
    refine k_val (vx) (by apply opN; repeat' (first | apply OpAt.z | apply OpAt.s)) (by rfl) (by rfl) (fun _ W hS => op_mv rfl rfl) ?_
    simp only [Act.put, List.setIfInBounds_toArray, List.set_cons_zero, List.set_cons_succ]
    refine k_val (.int .i64 last) (by apply opN; repeat' (first | apply OpAt.z | apply OpAt.s)) (by rfl) (by rfl) (fun _ W hS => op_mv rfl rfl) ?_
    simp only [Act.put, List.setIfInBounds_toArray, List.set_cons_zero, List.set_cons_succ]
    refine k_val (vy) (by apply opN; repeat' (first | apply OpAt.z | apply OpAt.s)) (by rfl) (by rfl) (fun _ W hS => op_mv rfl rfl) ?_
    simp only [Act.put, List.setIfInBounds_toArray, List.set_cons_zero, List.set_cons_succ]
    refine k_val (.int .i64 last) (by apply opN; repeat' (first | apply OpAt.z | apply OpAt.s)) (by rfl) (by rfl) (fun _ W hS => op_mv rfl rfl) ?_
    simp only [Act.put, List.setIfInBounds_toArray, List.set_cons_zero, List.set_cons_succ]
    refine k_val (.agg (bks za vk)) (by apply opN; repeat' (first | apply OpAt.z | apply OpAt.s)) (by rfl) (by rfl) (fun _ W hS => op_ld rfl rfl (bk_ld (h3.out W hS).2.1)) ?_
    simp only [Act.put, List.setIfInBounds_toArray, List.set_cons_zero, List.set_cons_succ]
    refine k_val (vy) (by apply opN; repeat' (first | apply OpAt.z | apply OpAt.s)) (by rfl) (by rfl) (fun _ W hS => op_mv rfl rfl) ?_
    simp only [Act.put, List.setIfInBounds_toArray, List.set_cons_zero, List.set_cons_succ]
    refine k_val (.int .i64 last) (by apply opN; repeat' (first | apply OpAt.z | apply OpAt.s)) (by rfl) (by rfl) (fun _ W hS => op_mv rfl rfl) ?_
    simp only [Act.put, List.setIfInBounds_toArray, List.set_cons_zero, List.set_cons_succ]
    refine k_val (.int .i64 0) (by apply opN; repeat' (first | apply OpAt.z | apply OpAt.s)) (by rfl) (by rfl) (fun _ W hS => op_mv rfl rfl) ?_
    simp only [Act.put, List.setIfInBounds_toArray, List.set_cons_zero, List.set_cons_succ]
    refine h_fork ?_ ?_
    · refine k_one (fun K' u => ∃ g2, u = .slice (some ⟨g2, 0, none⟩) 2 2 ∧ K' = fun W => W.heap[g2]? = some (.cells (bk2 za vk zb vm) 28 (0, 0))) (by apply opN; repeat' (first | apply OpAt.z | apply OpAt.s)) (by rfl) (by rfl) (by rfl) (fun W hCW hK => ?_) ?_
      · exact xup_val (op_b2 rfl rfl rfl) ⟨alloc_bel hCW (Nat.le_of_eq hOe.out) _, _, alloc_at1 W _, W.heap.size, rfl, rfl⟩
      rintro _ _ ⟨g2, rfl, rfl⟩
      simp only [Act.put, List.setIfInBounds_toArray, List.set_cons_zero, List.set_cons_succ]
      refine k_step (fun K' u => ∃ v1, u = .agg (bks y v1) ∧ K' = fun W => RwsO W O v1 A ∧ W.heap[g2]? = some (.cells (bk2 za vk zb vm) 28 (0, 0))) (by apply opN; repeat' (first | apply OpAt.z | apply OpAt.s)) (by rfl) (by rfl) (by rfl) (fun W hCW hK => ?_) ?_
      · refine op_x2 rfl rfl rfl rfl cf_makeq ?_
        refine (hMx.out W (h3.out W hCW).1.bel).mono ?_
        rintro e W' ⟨v1, rfl, h4, h5⟩
        exact ⟨_, rfl, hCW.trans (h5.mono (hsz.out W hCW)), _, ⟨own_base h4 (hsz.out W hCW), (h5.block _ (Array.getElem?_eq_some_iff.1 hK).1).trans hK⟩, v1, rfl, rfl⟩
      rintro _ _ ⟨v1, rfl, rfl⟩
      simp only [Act.put, List.setIfInBounds_toArray, List.set_cons_zero, List.set_cons_succ]
      refine k_step (fun K' u => ∃ v2, u = .agg (bks y v2) ∧ K' = fun W => RwsO W O v1 A ∧ RwsO W O v2 E ∧ W.heap[g2]? = some (.cells (bk2 za vk zb vm) 28 (0, 0))) (by apply opN; repeat' (first | apply OpAt.z | apply OpAt.s)) (by rfl) (by rfl) (by rfl) (fun W hCW hK => ?_) ?_
      · refine op_x2 rfl rfl rfl rfl cf_makeq ?_
        refine (hMy.out W (h3.out W hCW).1.bel).mono ?_
        rintro e W' ⟨v2, rfl, h4, h5⟩
        exact ⟨_, rfl, hCW.trans (h5.mono (hsz.out W hCW)), _, ⟨RwsO.next hK.1 h5, own_base h4 (hsz.out W hCW), (h5.block _ (Array.getElem?_eq_some_iff.1 hK.2).1).trans hK.2⟩, v2, rfl, rfl⟩
      rintro _ _ ⟨v2, rfl, rfl⟩
      simp only [Act.put, List.setIfInBounds_toArray, List.set_cons_zero, List.set_cons_succ]
      refine h_fork ?_ ?_
      · refine k_one (fun K' u => ∃ g9, u = .slice (some ⟨g9, 0, none⟩) 2 2 ∧ K' = fun W => RwsO W O v1 A ∧ RwsO W O v2 E ∧ W.heap[g2]? = some (.cells (bk2 za vk zb vm) 28 (0, 0)) ∧ W.heap[g9]? = some (.cells (bk2 y v1 y v2) 28 (0, 0))) (by apply opN; repeat' (first | apply OpAt.z | apply OpAt.s)) (by rfl) (by rfl) (by rfl) (fun W hCW hK => ?_) ?_
        · exact xup_val (op_b2 rfl rfl rfl) ⟨alloc_bel hCW (Nat.le_of_eq hOe.out) _, _, ⟨RwsO.next hK.1 (alloc_bel (Below.refl _ _) (Nat.le_refl _) _), RwsO.next hK.2.1 (alloc_bel (Below.refl _ _) (Nat.le_refl _) _), ((alloc_bel (Below.refl _ _) (Nat.le_refl _) _).block _ (Array.getElem?_eq_some_iff.1 hK.2.2).1).trans hK.2.2, alloc_at1 W _⟩, W.heap.size, rfl, rfl⟩
        rintro _ _ ⟨g9, rfl, rfl⟩
        simp only [Act.put, List.setIfInBounds_toArray, List.set_cons_zero, List.set_cons_succ]
        refine k_step (fun K' u => ∃ v3, u = .agg (bks y v3) ∧ K' = fun W => RwsO W O v1 A ∧ RwsO W O v2 E ∧ RwsO W O v3 E ∧ W.heap[g2]? = some (.cells (bk2 za vk zb vm) 28 (0, 0)) ∧ W.heap[g9]? = some (.cells (bk2 y v1 y v2) 28 (0, 0))) (by apply opN; repeat' (first | apply OpAt.z | apply OpAt.s)) (by rfl) (by rfl) (by rfl) (fun W hCW hK => ?_) ?_
        · refine op_x2 rfl rfl rfl rfl cf_makeq ?_
          refine (hMy.out W (h3.out W hCW).1.bel).mono ?_
          rintro e W' ⟨v3, rfl, h4, h5⟩
          exact ⟨_, rfl, hCW.trans (h5.mono (hsz.out W hCW)), _, ⟨RwsO.next hK.1 h5, RwsO.next hK.2.1 h5, own_base h4 (hsz.out W hCW), (h5.block _ (Array.getElem?_eq_some_iff.1 hK.2.2.1).1).trans hK.2.2.1, (h5.block _ (Array.getElem?_eq_some_iff.1 hK.2.2.2).1).trans hK.2.2.2⟩, v3, rfl, rfl⟩
        rintro _ _ ⟨v3, rfl, rfl⟩
        simp only [Act.put, List.setIfInBounds_toArray, List.set_cons_zero, List.set_cons_succ]
        refine k_step (fun K' u => ∃ g14, u = .slice (some ⟨g14, 0, none⟩) 2 2 ∧ K' = fun W => RwsO W O v1 A ∧ RwsO W O v2 E ∧ RwsO W O v3 E ∧ W.heap[g2]? = some (.cells (bk2 za vk zb vm) 28 (0, 0)) ∧ W.heap[g9]? = some (.cells (bk2 y v1 y v2) 28 (0, 0)) ∧ W.heap[g14]? = some (.cells (bk2 za vk y v3) 28 (0, 0))) (by apply opN; repeat' (first | apply OpAt.z | apply OpAt.s)) (by rfl) (by rfl) (by rfl) (fun W hCW hK => ?_) ?_
        · exact xup_val (op_b2 rfl rfl rfl) ⟨alloc_bel hCW (Nat.le_of_eq hOe.out) _, _, ⟨RwsO.next hK.1 (alloc_bel (Below.refl _ _) (Nat.le_refl _) _), RwsO.next hK.2.1 (alloc_bel (Below.refl _ _) (Nat.le_refl _) _), RwsO.next hK.2.2.1 (alloc_bel (Below.refl _ _) (Nat.le_refl _) _), ((alloc_bel (Below.refl _ _) (Nat.le_refl _) _).block _ (Array.getElem?_eq_some_iff.1 hK.2.2.2.1).1).trans hK.2.2.2.1, ((alloc_bel (Below.refl _ _) (Nat.le_refl _) _).block _ (Array.getElem?_eq_some_iff.1 hK.2.2.2.2).1).trans hK.2.2.2.2, alloc_at1 W _⟩, W.heap.size, rfl, rfl⟩
        rintro _ _ ⟨g14, rfl, rfl⟩
        simp only [Act.put, List.setIfInBounds_toArray, List.set_cons_zero, List.set_cons_succ]
        refine k_step (fun K' u => ∃ gT, u = .slice (some ⟨gT, 0, none⟩) 3 3 ∧ K' = fun W => RwsO W O v1 A ∧ RwsO W O v2 E ∧ RwsO W O v3 E ∧ W.heap[g2]? = some (.cells (bk2 za vk zb vm) 28 (0, 0)) ∧ W.heap[g9]? = some (.cells (bk2 y v1 y v2) 28 (0, 0)) ∧ W.heap[g14]? = some (.cells (bk2 za vk y v3) 28 (0, 0)) ∧ W.heap[gT]? = some (.cells #[.slice (some ⟨g2, 0, none⟩) 2 2, .slice (some ⟨g9, 0, none⟩) 2 2, .slice (some ⟨g14, 0, none⟩) 2 2] 32 (0, 0))) (by apply opN; repeat' (first | apply OpAt.z | apply OpAt.s)) (by rfl) (by rfl) (by rfl) (fun W hCW hK => ?_) ?_
        · exact xup_val (op_b3 rfl rfl rfl rfl) ⟨alloc_bel hCW (Nat.le_of_eq hOe.out) _, _, ⟨RwsO.next hK.1 (alloc_bel (Below.refl _ _) (Nat.le_refl _) _), RwsO.next hK.2.1 (alloc_bel (Below.refl _ _) (Nat.le_refl _) _), RwsO.next hK.2.2.1 (alloc_bel (Below.refl _ _) (Nat.le_refl _) _), ((alloc_bel (Below.refl _ _) (Nat.le_refl _) _).block _ (Array.getElem?_eq_some_iff.1 hK.2.2.2.1).1).trans hK.2.2.2.1, ((alloc_bel (Below.refl _ _) (Nat.le_refl _) _).block _ (Array.getElem?_eq_some_iff.1 hK.2.2.2.2.1).1).trans hK.2.2.2.2.1, ((alloc_bel (Below.refl _ _) (Nat.le_refl _) _).block _ (Array.getElem?_eq_some_iff.1 hK.2.2.2.2.2).1).trans hK.2.2.2.2.2, alloc_at1 W _⟩, W.heap.size, rfl, rfl⟩
        rintro _ _ ⟨gT, rfl, rfl⟩
        simp only [Act.put, List.setIfInBounds_toArray, List.set_cons_zero, List.set_cons_succ]
        refine k_val (.int .i64 3) (by apply opN; repeat' (first | apply OpAt.z | apply OpAt.s)) (by rfl) (by rfl) (fun _ W hS => op_ln3 (n := 3) rfl rfl) ?_
        simp only [Act.put, List.setIfInBounds_toArray, List.set_cons_zero, List.set_cons_succ]
        refine k_nil ?_
        intro W hCW hK
        have hG9 := hide (show (∃ s0 s1 s2 : Nat, W.heap[gT]? = some (.cells #[.slice (some ⟨s0, 0, none⟩) 2 2, .slice (some ⟨s1, 0, none⟩) 2 2, .slice (some ⟨s2, 0, none⟩) 2 2] 32 (0, 0)) ∧ (∃ v1 v2, PrV W s0 za v1 M zb v2 N) ∧ (∃ v1 v2, PrV W s1 y v1 A y v2 E) ∧ ∃ v1 v2, PrV W s2 za v1 M y v2 E) ∧ Below O w3 W from
          ⟨⟨g2, g9, g14, hK.2.2.2.2.2.2, ⟨vk, vm, hK.2.2.2.1, (h3.out W hCW).2.2.1, (h3.out W hCW).2.2.2.2, hMk.out.1, hNk.out.1, hMk.out.2, hNk.out.2⟩, ⟨v1, v2, hK.2.2.2.2.1, RwsO.row hK.1, RwsO.row hK.2.1, hAk.out.1, hEk.out.1, hAk.out.2, hEk.out.2⟩, ⟨vk, v3, hK.2.2.2.2.2.1, (h3.out W hCW).2.2.1, RwsO.row hK.2.2.1, hMk.out.1, hEk.out.1, hMk.out.2, hEk.out.2⟩⟩, hCW⟩)
        clear hCW hK
        go_wp2
        all_goals go_meet
        all_goals exact ⟨gT, rfl, rfl, rfl, hG9.out⟩
      · refine k_one (fun K' u => ∃ v3, u = .agg (bks y v3) ∧ K' = fun W => RwsO W O v1 A ∧ RwsO W O v2 E ∧ RwsO W O v3 E ∧ W.heap[g2]? = some (.cells (bk2 za vk zb vm) 28 (0, 0))) (by apply opN; repeat' (first | apply OpAt.z | apply OpAt.s)) (by rfl) (by rfl) (by rfl) (fun W hCW hK => ?_) ?_
        · refine op_x2 rfl rfl rfl rfl cf_makeq ?_
          refine (hMy.out W (h3.out W hCW).1.bel).mono ?_
          rintro e W' ⟨v3, rfl, h4, h5⟩
          exact ⟨_, rfl, hCW.trans (h5.mono (hsz.out W hCW)), _, ⟨RwsO.next hK.1 h5, RwsO.next hK.2.1 h5, own_base h4 (hsz.out W hCW), (h5.block _ (Array.getElem?_eq_some_iff.1 hK.2.2).1).trans hK.2.2⟩, v3, rfl, rfl⟩
        rintro _ _ ⟨v3, rfl, rfl⟩
        simp only [Act.put, List.setIfInBounds_toArray, List.set_cons_zero, List.set_cons_succ]
        refine h_fork ?_ ?_
        · refine k_one (fun K' u => ∃ g9, u = .slice (some ⟨g9, 0, none⟩) 2 2 ∧ K' = fun W => RwsO W O v1 A ∧ RwsO W O v2 E ∧ RwsO W O v3 E ∧ W.heap[g2]? = some (.cells (bk2 za vk zb vm) 28 (0, 0)) ∧ W.heap[g9]? = some (.cells (bk2 y v1 y v2) 28 (0, 0))) (by apply opN; repeat' (first | apply OpAt.z | apply OpAt.s)) (by rfl) (by rfl) (by rfl) (fun W hCW hK => ?_) ?_
          · exact xup_val (op_b2 rfl rfl rfl) ⟨alloc_bel hCW (Nat.le_of_eq hOe.out) _, _, ⟨RwsO.next hK.1 (alloc_bel (Below.refl _ _) (Nat.le_refl _) _), RwsO.next hK.2.1 (alloc_bel (Below.refl _ _) (Nat.le_refl _) _), RwsO.next hK.2.2.1 (alloc_bel (Below.refl _ _) (Nat.le_refl _) _), ((alloc_bel (Below.refl _ _) (Nat.le_refl _) _).block _ (Array.getElem?_eq_some_iff.1 hK.2.2.2).1).trans hK.2.2.2, alloc_at1 W _⟩, W.heap.size, rfl, rfl⟩
          rintro _ _ ⟨g9, rfl, rfl⟩
          simp only [Act.put, List.setIfInBounds_toArray, List.set_cons_zero, List.set_cons_succ]
          refine k_step (fun K' u => ∃ g14, u = .slice (some ⟨g14, 0, none⟩) 2 2 ∧ K' = fun W => RwsO W O v1 A ∧ RwsO W O v2 E ∧ RwsO W O v3 E ∧ W.heap[g2]? = some (.cells (bk2 za vk zb vm) 28 (0, 0)) ∧ W.heap[g9]? = some (.cells (bk2 y v1 y v2) 28 (0, 0)) ∧ W.heap[g14]? = some (.cells (bk2 za vk y v3) 28 (0, 0))) (by apply opN; repeat' (first | apply OpAt.z | apply OpAt.s)) (by rfl) (by rfl) (by rfl) (fun W hCW hK => ?_) ?_
          · exact xup_val (op_b2 rfl rfl rfl) ⟨alloc_bel hCW (Nat.le_of_eq hOe.out) _, _, ⟨RwsO.next hK.1 (alloc_bel (Below.refl _ _) (Nat.le_refl _) _), RwsO.next hK.2.1 (alloc_bel (Below.refl _ _) (Nat.le_refl _) _), RwsO.next hK.2.2.1 (alloc_bel (Below.refl _ _) (Nat.le_refl _) _), ((alloc_bel (Below.refl _ _) (Nat.le_refl _) _).block _ (Array.getElem?_eq_some_iff.1 hK.2.2.2.1).1).trans hK.2.2.2.1, ((alloc_bel (Below.refl _ _) (Nat.le_refl _) _).block _ (Array.getElem?_eq_some_iff.1 hK.2.2.2.2).1).trans hK.2.2.2.2, alloc_at1 W _⟩, W.heap.size, rfl, rfl⟩
          rintro _ _ ⟨g14, rfl, rfl⟩
          simp only [Act.put, List.setIfInBounds_toArray, List.set_cons_zero, List.set_cons_succ]
          refine k_step (fun K' u => ∃ gT, u = .slice (some ⟨gT, 0, none⟩) 3 3 ∧ K' = fun W => RwsO W O v1 A ∧ RwsO W O v2 E ∧ RwsO W O v3 E ∧ W.heap[g2]? = some (.cells (bk2 za vk zb vm) 28 (0, 0)) ∧ W.heap[g9]? = some (.cells (bk2 y v1 y v2) 28 (0, 0)) ∧ W.heap[g14]? = some (.cells (bk2 za vk y v3) 28 (0, 0)) ∧ W.heap[gT]? = some (.cells #[.slice (some ⟨g2, 0, none⟩) 2 2, .slice (some ⟨g9, 0, none⟩) 2 2, .slice (some ⟨g14, 0, none⟩) 2 2] 32 (0, 0))) (by apply opN; repeat' (first | apply OpAt.z | apply OpAt.s)) (by rfl) (by rfl) (by rfl) (fun W hCW hK => ?_) ?_
          · exact xup_val (op_b3 rfl rfl rfl rfl) ⟨alloc_bel hCW (Nat.le_of_eq hOe.out) _, _, ⟨RwsO.next hK.1 (alloc_bel (Below.refl _ _) (Nat.le_refl _) _), RwsO.next hK.2.1 (alloc_bel (Below.refl _ _) (Nat.le_refl _) _), RwsO.next hK.2.2.1 (alloc_bel (Below.refl _ _) (Nat.le_refl _) _), ((alloc_bel (Below.refl _ _) (Nat.le_refl _) _).block _ (Array.getElem?_eq_some_iff.1 hK.2.2.2.1).1).trans hK.2.2.2.1, ((alloc_bel (Below.refl _ _) (Nat.le_refl _) _).block _ (Array.getElem?_eq_some_iff.1 hK.2.2.2.2.1).1).trans hK.2.2.2.2.1, ((alloc_bel (Below.refl _ _) (Nat.le_refl _) _).block _ (Array.getElem?_eq_some_iff.1 hK.2.2.2.2.2).1).trans hK.2.2.2.2.2, alloc_at1 W _⟩, W.heap.size, rfl, rfl⟩
          rintro _ _ ⟨gT, rfl, rfl⟩
          simp only [Act.put, List.setIfInBounds_toArray, List.set_cons_zero, List.set_cons_succ]
          refine k_val (.int .i64 3) (by apply opN; repeat' (first | apply OpAt.z | apply OpAt.s)) (by rfl) (by rfl) (fun _ W hS => op_ln3 (n := 3) rfl rfl) ?_
          simp only [Act.put, List.setIfInBounds_toArray, List.set_cons_zero, List.set_cons_succ]
          refine k_nil ?_
          intro W hCW hK
          have hG9 := hide (show (∃ s0 s1 s2 : Nat, W.heap[gT]? = some (.cells #[.slice (some ⟨s0, 0, none⟩) 2 2, .slice (some ⟨s1, 0, none⟩) 2 2, .slice (some ⟨s2, 0, none⟩) 2 2] 32 (0, 0)) ∧ (∃ v1 v2, PrV W s0 za v1 M zb v2 N) ∧ (∃ v1 v2, PrV W s1 y v1 A y v2 E) ∧ ∃ v1 v2, PrV W s2 za v1 M y v2 E) ∧ Below O w3 W from
            ⟨⟨g2, g9, g14, hK.2.2.2.2.2.2, ⟨vk, vm, hK.2.2.2.1, (h3.out W hCW).2.2.1, (h3.out W hCW).2.2.2.2, hMk.out.1, hNk.out.1, hMk.out.2, hNk.out.2⟩, ⟨v1, v2, hK.2.2.2.2.1, RwsO.row hK.1, RwsO.row hK.2.1, hAk.out.1, hEk.out.1, hAk.out.2, hEk.out.2⟩, ⟨vk, v3, hK.2.2.2.2.2.1, (h3.out W hCW).2.2.1, RwsO.row hK.2.2.1, hMk.out.1, hEk.out.1, hMk.out.2, hEk.out.2⟩⟩, hCW⟩)
          clear hCW hK
          go_wp2
          all_goals go_meet
          all_goals exact ⟨gT, rfl, rfl, rfl, hG9.out⟩
        · refine k_one (fun K' u => ∃ g14, u = .slice (some ⟨g14, 0, none⟩) 2 2 ∧ K' = fun W => RwsO W O v1 A ∧ RwsO W O v2 E ∧ RwsO W O v3 E ∧ W.heap[g2]? = some (.cells (bk2 za vk zb vm) 28 (0, 0)) ∧ W.heap[g14]? = some (.cells (bk2 za vk y v3) 28 (0, 0))) (by apply opN; repeat' (first | apply OpAt.z | apply OpAt.s)) (by rfl) (by rfl) (by rfl) (fun W hCW hK => ?_) ?_
          · exact xup_val (op_b2 rfl rfl rfl) ⟨alloc_bel hCW (Nat.le_of_eq hOe.out) _, _, ⟨RwsO.next hK.1 (alloc_bel (Below.refl _ _) (Nat.le_refl _) _), RwsO.next hK.2.1 (alloc_bel (Below.refl _ _) (Nat.le_refl _) _), RwsO.next hK.2.2.1 (alloc_bel (Below.refl _ _) (Nat.le_refl _) _), ((alloc_bel (Below.refl _ _) (Nat.le_refl _) _).block _ (Array.getElem?_eq_some_iff.1 hK.2.2.2).1).trans hK.2.2.2, alloc_at1 W _⟩, W.heap.size, rfl, rfl⟩
          rintro _ _ ⟨g14, rfl, rfl⟩
          simp only [Act.put, List.setIfInBounds_toArray, List.set_cons_zero, List.set_cons_succ]
          refine k_step (fun K' u => ∃ g9, u = .slice (some ⟨g9, 0, none⟩) 2 2 ∧ K' = fun W => RwsO W O v1 A ∧ RwsO W O v2 E ∧ RwsO W O v3 E ∧ W.heap[g2]? = some (.cells (bk2 za vk zb vm) 28 (0, 0)) ∧ W.heap[g9]? = some (.cells (bk2 y v1 y v2) 28 (0, 0)) ∧ W.heap[g14]? = some (.cells (bk2 za vk y v3) 28 (0, 0))) (by apply opN; repeat' (first | apply OpAt.z | apply OpAt.s)) (by rfl) (by rfl) (by rfl) (fun W hCW hK => ?_) ?_
          · exact xup_val (op_b2 rfl rfl rfl) ⟨alloc_bel hCW (Nat.le_of_eq hOe.out) _, _, ⟨RwsO.next hK.1 (alloc_bel (Below.refl _ _) (Nat.le_refl _) _), RwsO.next hK.2.1 (alloc_bel (Below.refl _ _) (Nat.le_refl _) _), RwsO.next hK.2.2.1 (alloc_bel (Below.refl _ _) (Nat.le_refl _) _), ((alloc_bel (Below.refl _ _) (Nat.le_refl _) _).block _ (Array.getElem?_eq_some_iff.1 hK.2.2.2.1).1).trans hK.2.2.2.1, alloc_at1 W _, ((alloc_bel (Below.refl _ _) (Nat.le_refl _) _).block _ (Array.getElem?_eq_some_iff.1 hK.2.2.2.2).1).trans hK.2.2.2.2⟩, W.heap.size, rfl, rfl⟩
          rintro _ _ ⟨g9, rfl, rfl⟩
          simp only [Act.put, List.setIfInBounds_toArray, List.set_cons_zero, List.set_cons_succ]
          refine k_step (fun K' u => ∃ gT, u = .slice (some ⟨gT, 0, none⟩) 3 3 ∧ K' = fun W => RwsO W O v1 A ∧ RwsO W O v2 E ∧ RwsO W O v3 E ∧ W.heap[g2]? = some (.cells (bk2 za vk zb vm) 28 (0, 0)) ∧ W.heap[g9]? = some (.cells (bk2 y v1 y v2) 28 (0, 0)) ∧ W.heap[g14]? = some (.cells (bk2 za vk y v3) 28 (0, 0)) ∧ W.heap[gT]? = some (.cells #[.slice (some ⟨g2, 0, none⟩) 2 2, .slice (some ⟨g9, 0, none⟩) 2 2, .slice (some ⟨g14, 0, none⟩) 2 2] 32 (0, 0))) (by apply opN; repeat' (first | apply OpAt.z | apply OpAt.s)) (by rfl) (by rfl) (by rfl) (fun W hCW hK => ?_) ?_
          · exact xup_val (op_b3 rfl rfl rfl rfl) ⟨alloc_bel hCW (Nat.le_of_eq hOe.out) _, _, ⟨RwsO.next hK.1 (alloc_bel (Below.refl _ _) (Nat.le_refl _) _), RwsO.next hK.2.1 (alloc_bel (Below.refl _ _) (Nat.le_refl _) _), RwsO.next hK.2.2.1 (alloc_bel (Below.refl _ _) (Nat.le_refl _) _), ((alloc_bel (Below.refl _ _) (Nat.le_refl _) _).block _ (Array.getElem?_eq_some_iff.1 hK.2.2.2.1).1).trans hK.2.2.2.1, ((alloc_bel (Below.refl _ _) (Nat.le_refl _) _).block _ (Array.getElem?_eq_some_iff.1 hK.2.2.2.2.1).1).trans hK.2.2.2.2.1, ((alloc_bel (Below.refl _ _) (Nat.le_refl _) _).block _ (Array.getElem?_eq_some_iff.1 hK.2.2.2.2.2).1).trans hK.2.2.2.2.2, alloc_at1 W _⟩, W.heap.size, rfl, rfl⟩
          rintro _ _ ⟨gT, rfl, rfl⟩
          simp only [Act.put, List.setIfInBounds_toArray, List.set_cons_zero, List.set_cons_succ]
          refine k_val (.int .i64 3) (by apply opN; repeat' (first | apply OpAt.z | apply OpAt.s)) (by rfl) (by rfl) (fun _ W hS => op_ln3 (n := 3) rfl rfl) ?_
          simp only [Act.put, List.setIfInBounds_toArray, List.set_cons_zero, List.set_cons_succ]
          refine k_nil ?_
          intro W hCW hK
          have hG9 := hide (show (∃ s0 s1 s2 : Nat, W.heap[gT]? = some (.cells #[.slice (some ⟨s0, 0, none⟩) 2 2, .slice (some ⟨s1, 0, none⟩) 2 2, .slice (some ⟨s2, 0, none⟩) 2 2] 32 (0, 0)) ∧ (∃ v1 v2, PrV W s0 za v1 M zb v2 N) ∧ (∃ v1 v2, PrV W s1 y v1 A y v2 E) ∧ ∃ v1 v2, PrV W s2 za v1 M y v2 E) ∧ Below O w3 W from
            ⟨⟨g2, g9, g14, hK.2.2.2.2.2.2, ⟨vk, vm, hK.2.2.2.1, (h3.out W hCW).2.2.1, (h3.out W hCW).2.2.2.2, hMk.out.1, hNk.out.1, hMk.out.2, hNk.out.2⟩, ⟨v1, v2, hK.2.2.2.2.1, RwsO.row hK.1, RwsO.row hK.2.1, hAk.out.1, hEk.out.1, hAk.out.2, hEk.out.2⟩, ⟨vk, v3, hK.2.2.2.2.2.1, (h3.out W hCW).2.2.1, RwsO.row hK.2.2.1, hMk.out.1, hEk.out.1, hMk.out.2, hEk.out.2⟩⟩, hCW⟩)
          clear hCW hK
          go_wp2
          all_goals go_meet
          all_goals exact ⟨gT, rfl, rfl, rfl, hG9.out⟩
    · refine k_one (fun K' u => ∃ v1, u = .agg (bks y v1) ∧ K' = fun W => RwsO W O v1 A) (by apply opN; repeat' (first | apply OpAt.z | apply OpAt.s)) (by rfl) (by rfl) (by rfl) (fun W hCW hK => ?_) ?_
      · refine op_x2 rfl rfl rfl rfl cf_makeq ?_
        refine (hMx.out W (h3.out W hCW).1.bel).mono ?_
        rintro e W' ⟨v1, rfl, h4, h5⟩
        exact ⟨_, rfl, hCW.trans (h5.mono (hsz.out W hCW)), _, own_base h4 (hsz.out W hCW), v1, rfl, rfl⟩
      rintro _ _ ⟨v1, rfl, rfl⟩
      simp only [Act.put, List.setIfInBounds_toArray, List.set_cons_zero, List.set_cons_succ]
      refine h_fork ?_ ?_
      · refine k_one (fun K' u => ∃ g2, u = .slice (some ⟨g2, 0, none⟩) 2 2 ∧ K' = fun W => RwsO W O v1 A ∧ W.heap[g2]? = some (.cells (bk2 za vk zb vm) 28 (0, 0))) (by apply opN; repeat' (first | apply OpAt.z | apply OpAt.s)) (by rfl) (by rfl) (by rfl) (fun W hCW hK => ?_) ?_
        · exact xup_val (op_b2 rfl rfl rfl) ⟨alloc_bel hCW (Nat.le_of_eq hOe.out) _, _, ⟨RwsO.next hK (alloc_bel (Below.refl _ _) (Nat.le_refl _) _), alloc_at1 W _⟩, W.heap.size, rfl, rfl⟩
        rintro _ _ ⟨g2, rfl, rfl⟩
        simp only [Act.put, List.setIfInBounds_toArray, List.set_cons_zero, List.set_cons_succ]
        refine k_step (fun K' u => ∃ v2, u = .agg (bks y v2) ∧ K' = fun W => RwsO W O v1 A ∧ RwsO W O v2 E ∧ W.heap[g2]? = some (.cells (bk2 za vk zb vm) 28 (0, 0))) (by apply opN; repeat' (first | apply OpAt.z | apply OpAt.s)) (by rfl) (by rfl) (by rfl) (fun W hCW hK => ?_) ?_
        · refine op_x2 rfl rfl rfl rfl cf_makeq ?_
          refine (hMy.out W (h3.out W hCW).1.bel).mono ?_
          rintro e W' ⟨v2, rfl, h4, h5⟩
          exact ⟨_, rfl, hCW.trans (h5.mono (hsz.out W hCW)), _, ⟨RwsO.next hK.1 h5, own_base h4 (hsz.out W hCW), (h5.block _ (Array.getElem?_eq_some_iff.1 hK.2).1).trans hK.2⟩, v2, rfl, rfl⟩
        rintro _ _ ⟨v2, rfl, rfl⟩
        simp only [Act.put, List.setIfInBounds_toArray, List.set_cons_zero, List.set_cons_succ]
        refine h_fork ?_ ?_
        · refine k_one (fun K' u => ∃ g9, u = .slice (some ⟨g9, 0, none⟩) 2 2 ∧ K' = fun W => RwsO W O v1 A ∧ RwsO W O v2 E ∧ W.heap[g2]? = some (.cells (bk2 za vk zb vm) 28 (0, 0)) ∧ W.heap[g9]? = some (.cells (bk2 y v1 y v2) 28 (0, 0))) (by apply opN; repeat' (first | apply OpAt.z | apply OpAt.s)) (by rfl) (by rfl) (by rfl) (fun W hCW hK => ?_) ?_
          · exact xup_val (op_b2 rfl rfl rfl) ⟨alloc_bel hCW (Nat.le_of_eq hOe.out) _, _, ⟨RwsO.next hK.1 (alloc_bel (Below.refl _ _) (Nat.le_refl _) _), RwsO.next hK.2.1 (alloc_bel (Below.refl _ _) (Nat.le_refl _) _), ((alloc_bel (Below.refl _ _) (Nat.le_refl _) _).block _ (Array.getElem?_eq_some_iff.1 hK.2.2).1).trans hK.2.2, alloc_at1 W _⟩, W.heap.size, rfl, rfl⟩
          rintro _ _ ⟨g9, rfl, rfl⟩
          simp only [Act.put, List.setIfInBounds_toArray, List.set_cons_zero, List.set_cons_succ]
          refine k_step (fun K' u => ∃ v3, u = .agg (bks y v3) ∧ K' = fun W => RwsO W O v1 A ∧ RwsO W O v2 E ∧ RwsO W O v3 E ∧ W.heap[g2]? = some (.cells (bk2 za vk zb vm) 28 (0, 0)) ∧ W.heap[g9]? = some (.cells (bk2 y v1 y v2) 28 (0, 0))) (by apply opN; repeat' (first | apply OpAt.z | apply OpAt.s)) (by rfl) (by rfl) (by rfl) (fun W hCW hK => ?_) ?_
          · refine op_x2 rfl rfl rfl rfl cf_makeq ?_
            refine (hMy.out W (h3.out W hCW).1.bel).mono ?_
            rintro e W' ⟨v3, rfl, h4, h5⟩
            exact ⟨_, rfl, hCW.trans (h5.mono (hsz.out W hCW)), _, ⟨RwsO.next hK.1 h5, RwsO.next hK.2.1 h5, own_base h4 (hsz.out W hCW), (h5.block _ (Array.getElem?_eq_some_iff.1 hK.2.2.1).1).trans hK.2.2.1, (h5.block _ (Array.getElem?_eq_some_iff.1 hK.2.2.2).1).trans hK.2.2.2⟩, v3, rfl, rfl⟩
          rintro _ _ ⟨v3, rfl, rfl⟩
          simp only [Act.put, List.setIfInBounds_toArray, List.set_cons_zero, List.set_cons_succ]
          refine k_step (fun K' u => ∃ g14, u = .slice (some ⟨g14, 0, none⟩) 2 2 ∧ K' = fun W => RwsO W O v1 A ∧ RwsO W O v2 E ∧ RwsO W O v3 E ∧ W.heap[g2]? = some (.cells (bk2 za vk zb vm) 28 (0, 0)) ∧ W.heap[g9]? = some (.cells (bk2 y v1 y v2) 28 (0, 0)) ∧ W.heap[g14]? = some (.cells (bk2 za vk y v3) 28 (0, 0))) (by apply opN; repeat' (first | apply OpAt.z | apply OpAt.s)) (by rfl) (by rfl) (by rfl) (fun W hCW hK => ?_) ?_
          · exact xup_val (op_b2 rfl rfl rfl) ⟨alloc_bel hCW (Nat.le_of_eq hOe.out) _, _, ⟨RwsO.next hK.1 (alloc_bel (Below.refl _ _) (Nat.le_refl _) _), RwsO.next hK.2.1 (alloc_bel (Below.refl _ _) (Nat.le_refl _) _), RwsO.next hK.2.2.1 (alloc_bel (Below.refl _ _) (Nat.le_refl _) _), ((alloc_bel (Below.refl _ _) (Nat.le_refl _) _).block _ (Array.getElem?_eq_some_iff.1 hK.2.2.2.1).1).trans hK.2.2.2.1, ((alloc_bel (Below.refl _ _) (Nat.le_refl _) _).block _ (Array.getElem?_eq_some_iff.1 hK.2.2.2.2).1).trans hK.2.2.2.2, alloc_at1 W _⟩, W.heap.size, rfl, rfl⟩
          rintro _ _ ⟨g14, rfl, rfl⟩
          simp only [Act.put, List.setIfInBounds_toArray, List.set_cons_zero, List.set_cons_succ]
          refine k_step (fun K' u => ∃ gT, u = .slice (some ⟨gT, 0, none⟩) 3 3 ∧ K' = fun W => RwsO W O v1 A ∧ RwsO W O v2 E ∧ RwsO W O v3 E ∧ W.heap[g2]? = some (.cells (bk2 za vk zb vm) 28 (0, 0)) ∧ W.heap[g9]? = some (.cells (bk2 y v1 y v2) 28 (0, 0)) ∧ W.heap[g14]? = some (.cells (bk2 za vk y v3) 28 (0, 0)) ∧ W.heap[gT]? = some (.cells #[.slice (some ⟨g2, 0, none⟩) 2 2, .slice (some ⟨g9, 0, none⟩) 2 2, .slice (some ⟨g14, 0, none⟩) 2 2] 32 (0, 0))) (by apply opN; repeat' (first | apply OpAt.z | apply OpAt.s)) (by rfl) (by rfl) (by rfl) (fun W hCW hK => ?_) ?_
          · exact xup_val (op_b3 rfl rfl rfl rfl) ⟨alloc_bel hCW (Nat.le_of_eq hOe.out) _, _, ⟨RwsO.next hK.1 (alloc_bel (Below.refl _ _) (Nat.le_refl _) _), RwsO.next hK.2.1 (alloc_bel (Below.refl _ _) (Nat.le_refl _) _), RwsO.next hK.2.2.1 (alloc_bel (Below.refl _ _) (Nat.le_refl _) _), ((alloc_bel (Below.refl _ _) (Nat.le_refl _) _).block _ (Array.getElem?_eq_some_iff.1 hK.2.2.2.1).1).trans hK.2.2.2.1, ((alloc_bel (Below.refl _ _) (Nat.le_refl _) _).block _ (Array.getElem?_eq_some_iff.1 hK.2.2.2.2.1).1).trans hK.2.2.2.2.1, ((alloc_bel (Below.refl _ _) (Nat.le_refl _) _).block _ (Array.getElem?_eq_some_iff.1 hK.2.2.2.2.2).1).trans hK.2.2.2.2.2, alloc_at1 W _⟩, W.heap.size, rfl, rfl⟩
          rintro _ _ ⟨gT, rfl, rfl⟩
          simp only [Act.put, List.setIfInBounds_toArray, List.set_cons_zero, List.set_cons_succ]
          refine k_val (.int .i64 3) (by apply opN; repeat' (first | apply OpAt.z | apply OpAt.s)) (by rfl) (by rfl) (fun _ W hS => op_ln3 (n := 3) rfl rfl) ?_
          simp only [Act.put, List.setIfInBounds_toArray, List.set_cons_zero, List.set_cons_succ]
          refine k_nil ?_
          intro W hCW hK
          have hG9 := hide (show (∃ s0 s1 s2 : Nat, W.heap[gT]? = some (.cells #[.slice (some ⟨s0, 0, none⟩) 2 2, .slice (some ⟨s1, 0, none⟩) 2 2, .slice (some ⟨s2, 0, none⟩) 2 2] 32 (0, 0)) ∧ (∃ v1 v2, PrV W s0 za v1 M zb v2 N) ∧ (∃ v1 v2, PrV W s1 y v1 A y v2 E) ∧ ∃ v1 v2, PrV W s2 za v1 M y v2 E) ∧ Below O w3 W from
            ⟨⟨g2, g9, g14, hK.2.2.2.2.2.2, ⟨vk, vm, hK.2.2.2.1, (h3.out W hCW).2.2.1, (h3.out W hCW).2.2.2.2, hMk.out.1, hNk.out.1, hMk.out.2, hNk.out.2⟩, ⟨v1, v2, hK.2.2.2.2.1, RwsO.row hK.1, RwsO.row hK.2.1, hAk.out.1, hEk.out.1, hAk.out.2, hEk.out.2⟩, ⟨vk, v3, hK.2.2.2.2.2.1, (h3.out W hCW).2.2.1, RwsO.row hK.2.2.1, hMk.out.1, hEk.out.1, hMk.out.2, hEk.out.2⟩⟩, hCW⟩)
          clear hCW hK
          go_wp2
          all_goals go_meet
          all_goals exact ⟨gT, rfl, rfl, rfl, hG9.out⟩
        · refine k_one (fun K' u => ∃ v3, u = .agg (bks y v3) ∧ K' = fun W => RwsO W O v1 A ∧ RwsO W O v2 E ∧ RwsO W O v3 E ∧ W.heap[g2]? = some (.cells (bk2 za vk zb vm) 28 (0, 0))) (by apply opN; repeat' (first | apply OpAt.z | apply OpAt.s)) (by rfl) (by rfl) (by rfl) (fun W hCW hK => ?_) ?_
          · refine op_x2 rfl rfl rfl rfl cf_makeq ?_
            refine (hMy.out W (h3.out W hCW).1.bel).mono ?_
            rintro e W' ⟨v3, rfl, h4, h5⟩
            exact ⟨_, rfl, hCW.trans (h5.mono (hsz.out W hCW)), _, ⟨RwsO.next hK.1 h5, RwsO.next hK.2.1 h5, own_base h4 (hsz.out W hCW), (h5.block _ (Array.getElem?_eq_some_iff.1 hK.2.2).1).trans hK.2.2⟩, v3, rfl, rfl⟩
          rintro _ _ ⟨v3, rfl, rfl⟩
          simp only [Act.put, List.setIfInBounds_toArray, List.set_cons_zero, List.set_cons_succ]
          refine h_fork ?_ ?_
          · refine k_one (fun K' u => ∃ g9, u = .slice (some ⟨g9, 0, none⟩) 2 2 ∧ K' = fun W => RwsO W O v1 A ∧ RwsO W O v2 E ∧ RwsO W O v3 E ∧ W.heap[g2]? = some (.cells (bk2 za vk zb vm) 28 (0, 0)) ∧ W.heap[g9]? = some (.cells (bk2 y v1 y v2) 28 (0, 0))) (by apply opN; repeat' (first | apply OpAt.z | apply OpAt.s)) (by rfl) (by rfl) (by rfl) (fun W hCW hK => ?_) ?_
            · exact xup_val (op_b2 rfl rfl rfl) ⟨alloc_bel hCW (Nat.le_of_eq hOe.out) _, _, ⟨RwsO.next hK.1 (alloc_bel (Below.refl _ _) (Nat.le_refl _) _), RwsO.next hK.2.1 (alloc_bel (Below.refl _ _) (Nat.le_refl _) _), RwsO.next hK.2.2.1 (alloc_bel (Below.refl _ _) (Nat.le_refl _) _), ((alloc_bel (Below.refl _ _) (Nat.le_refl _) _).block _ (Array.getElem?_eq_some_iff.1 hK.2.2.2).1).trans hK.2.2.2, alloc_at1 W _⟩, W.heap.size, rfl, rfl⟩
            rintro _ _ ⟨g9, rfl, rfl⟩
            simp only [Act.put, List.setIfInBounds_toArray, List.set_cons_zero, List.set_cons_succ]
            refine k_step (fun K' u => ∃ g14, u = .slice (some ⟨g14, 0, none⟩) 2 2 ∧ K' = fun W => RwsO W O v1 A ∧ RwsO W O v2 E ∧ RwsO W O v3 E ∧ W.heap[g2]? = some (.cells (bk2 za vk zb vm) 28 (0, 0)) ∧ W.heap[g9]? = some (.cells (bk2 y v1 y v2) 28 (0, 0)) ∧ W.heap[g14]? = some (.cells (bk2 za vk y v3) 28 (0, 0))) (by apply opN; repeat' (first | apply OpAt.z | apply OpAt.s)) (by rfl) (by rfl) (by rfl) (fun W hCW hK => ?_) ?_
            · exact xup_val (op_b2 rfl rfl rfl) ⟨alloc_bel hCW (Nat.le_of_eq hOe.out) _, _, ⟨RwsO.next hK.1 (alloc_bel (Below.refl _ _) (Nat.le_refl _) _), RwsO.next hK.2.1 (alloc_bel (Below.refl _ _) (Nat.le_refl _) _), RwsO.next hK.2.2.1 (alloc_bel (Below.refl _ _) (Nat.le_refl _) _), ((alloc_bel (Below.refl _ _) (Nat.le_refl _) _).block _ (Array.getElem?_eq_some_iff.1 hK.2.2.2.1).1).trans hK.2.2.2.1, ((alloc_bel (Below.refl _ _) (Nat.le_refl _) _).block _ (Array.getElem?_eq_some_iff.1 hK.2.2.2.2).1).trans hK.2.2.2.2, alloc_at1 W _⟩, W.heap.size, rfl, rfl⟩
            rintro _ _ ⟨g14, rfl, rfl⟩
            simp only [Act.put, List.setIfInBounds_toArray, List.set_cons_zero, List.set_cons_succ]
            refine k_step (fun K' u => ∃ gT, u = .slice (some ⟨gT, 0, none⟩) 3 3 ∧ K' = fun W => RwsO W O v1 A ∧ RwsO W O v2 E ∧ RwsO W O v3 E ∧ W.heap[g2]? = some (.cells (bk2 za vk zb vm) 28 (0, 0)) ∧ W.heap[g9]? = some (.cells (bk2 y v1 y v2) 28 (0, 0)) ∧ W.heap[g14]? = some (.cells (bk2 za vk y v3) 28 (0, 0)) ∧ W.heap[gT]? = some (.cells #[.slice (some ⟨g2, 0, none⟩) 2 2, .slice (some ⟨g9, 0, none⟩) 2 2, .slice (some ⟨g14, 0, none⟩) 2 2] 32 (0, 0))) (by apply opN; repeat' (first | apply OpAt.z | apply OpAt.s)) (by rfl) (by rfl) (by rfl) (fun W hCW hK => ?_) ?_
            · exact xup_val (op_b3 rfl rfl rfl rfl) ⟨alloc_bel hCW (Nat.le_of_eq hOe.out) _, _, ⟨RwsO.next hK.1 (alloc_bel (Below.refl _ _) (Nat.le_refl _) _), RwsO.next hK.2.1 (alloc_bel (Below.refl _ _) (Nat.le_refl _) _), RwsO.next hK.2.2.1 (alloc_bel (Below.refl _ _) (Nat.le_refl _) _), ((alloc_bel (Below.refl _ _) (Nat.le_refl _) _).block _ (Array.getElem?_eq_some_iff.1 hK.2.2.2.1).1).trans hK.2.2.2.1, ((alloc_bel (Below.refl _ _) (Nat.le_refl _) _).block _ (Array.getElem?_eq_some_iff.1 hK.2.2.2.2.1).1).trans hK.2.2.2.2.1, ((alloc_bel (Below.refl _ _) (Nat.le_refl _) _).block _ (Array.getElem?_eq_some_iff.1 hK.2.2.2.2.2).1).trans hK.2.2.2.2.2, alloc_at1 W _⟩, W.heap.size, rfl, rfl⟩
            rintro _ _ ⟨gT, rfl, rfl⟩
            simp only [Act.put, List.setIfInBounds_toArray, List.set_cons_zero, List.set_cons_succ]
            refine k_val (.int .i64 3) (by apply opN; repeat' (first | apply OpAt.z | apply OpAt.s)) (by rfl) (by rfl) (fun _ W hS => op_ln3 (n := 3) rfl rfl) ?_
            simp only [Act.put, List.setIfInBounds_toArray, List.set_cons_zero, List.set_cons_succ]
            refine k_nil ?_
            intro W hCW hK
            have hG9 := hide (show (∃ s0 s1 s2 : Nat, W.heap[gT]? = some (.cells #[.slice (some ⟨s0, 0, none⟩) 2 2, .slice (some ⟨s1, 0, none⟩) 2 2, .slice (some ⟨s2, 0, none⟩) 2 2] 32 (0, 0)) ∧ (∃ v1 v2, PrV W s0 za v1 M zb v2 N) ∧ (∃ v1 v2, PrV W s1 y v1 A y v2 E) ∧ ∃ v1 v2, PrV W s2 za v1 M y v2 E) ∧ Below O w3 W from
              ⟨⟨g2, g9, g14, hK.2.2.2.2.2.2, ⟨vk, vm, hK.2.2.2.1, (h3.out W hCW).2.2.1, (h3.out W hCW).2.2.2.2, hMk.out.1, hNk.out.1, hMk.out.2, hNk.out.2⟩, ⟨v1, v2, hK.2.2.2.2.1, RwsO.row hK.1, RwsO.row hK.2.1, hAk.out.1, hEk.out.1, hAk.out.2, hEk.out.2⟩, ⟨vk, v3, hK.2.2.2.2.2.1, (h3.out W hCW).2.2.1, RwsO.row hK.2.2.1, hMk.out.1, hEk.out.1, hMk.out.2, hEk.out.2⟩⟩, hCW⟩)
            clear hCW hK
            go_wp2
            all_goals go_meet
            all_goals exact ⟨gT, rfl, rfl, rfl, hG9.out⟩
          · refine k_one (fun K' u => ∃ g14, u = .slice (some ⟨g14, 0, none⟩) 2 2 ∧ K' = fun W => RwsO W O v1 A ∧ RwsO W O v2 E ∧ RwsO W O v3 E ∧ W.heap[g2]? = some (.cells (bk2 za vk zb vm) 28 (0, 0)) ∧ W.heap[g14]? = some (.cells (bk2 za vk y v3) 28 (0, 0))) (by apply opN; repeat' (first | apply OpAt.z | apply OpAt.s)) (by rfl) (by rfl) (by rfl) (fun W hCW hK => ?_) ?_
            · exact xup_val (op_b2 rfl rfl rfl) ⟨alloc_bel hCW (Nat.le_of_eq hOe.out) _, _, ⟨RwsO.next hK.1 (alloc_bel (Below.refl _ _) (Nat.le_refl _) _), RwsO.next hK.2.1 (alloc_bel (Below.refl _ _) (Nat.le_refl _) _), RwsO.next hK.2.2.1 (alloc_bel (Below.refl _ _) (Nat.le_refl _) _), ((alloc_bel (Below.refl _ _) (Nat.le_refl _) _).block _ (Array.getElem?_eq_some_iff.1 hK.2.2.2).1).trans hK.2.2.2, alloc_at1 W _⟩, W.heap.size, rfl, rfl⟩
            rintro _ _ ⟨g14, rfl, rfl⟩
            simp only [Act.put, List.setIfInBounds_toArray, List.set_cons_zero, List.set_cons_succ]
            refine k_step (fun K' u => ∃ g9, u = .slice (some ⟨g9, 0, none⟩) 2 2 ∧ K' = fun W => RwsO W O v1 A ∧ RwsO W O v2 E ∧ RwsO W O v3 E ∧ W.heap[g2]? = some (.cells (bk2 za vk zb vm) 28 (0, 0)) ∧ W.heap[g9]? = some (.cells (bk2 y v1 y v2) 28 (0, 0)) ∧ W.heap[g14]? = some (.cells (bk2 za vk y v3) 28 (0, 0))) (by apply opN; repeat' (first | apply OpAt.z | apply OpAt.s)) (by rfl) (by rfl) (by rfl) (fun W hCW hK => ?_) ?_
            · exact xup_val (op_b2 rfl rfl rfl) ⟨alloc_bel hCW (Nat.le_of_eq hOe.out) _, _, ⟨RwsO.next hK.1 (alloc_bel (Below.refl _ _) (Nat.le_refl _) _), RwsO.next hK.2.1 (alloc_bel (Below.refl _ _) (Nat.le_refl _) _), RwsO.next hK.2.2.1 (alloc_bel (Below.refl _ _) (Nat.le_refl _) _), ((alloc_bel (Below.refl _ _) (Nat.le_refl _) _).block _ (Array.getElem?_eq_some_iff.1 hK.2.2.2.1).1).trans hK.2.2.2.1, alloc_at1 W _, ((alloc_bel (Below.refl _ _) (Nat.le_refl _) _).block _ (Array.getElem?_eq_some_iff.1 hK.2.2.2.2).1).trans hK.2.2.2.2⟩, W.heap.size, rfl, rfl⟩
            rintro _ _ ⟨g9, rfl, rfl⟩
            simp only [Act.put, List.setIfInBounds_toArray, List.set_cons_zero, List.set_cons_succ]
            refine k_step (fun K' u => ∃ gT, u = .slice (some ⟨gT, 0, none⟩) 3 3 ∧ K' = fun W => RwsO W O v1 A ∧ RwsO W O v2 E ∧ RwsO W O v3 E ∧ W.heap[g2]? = some (.cells (bk2 za vk zb vm) 28 (0, 0)) ∧ W.heap[g9]? = some (.cells (bk2 y v1 y v2) 28 (0, 0)) ∧ W.heap[g14]? = some (.cells (bk2 za vk y v3) 28 (0, 0)) ∧ W.heap[gT]? = some (.cells #[.slice (some ⟨g2, 0, none⟩) 2 2, .slice (some ⟨g9, 0, none⟩) 2 2, .slice (some ⟨g14, 0, none⟩) 2 2] 32 (0, 0))) (by apply opN; repeat' (first | apply OpAt.z | apply OpAt.s)) (by rfl) (by rfl) (by rfl) (fun W hCW hK => ?_) ?_
            · exact xup_val (op_b3 rfl rfl rfl rfl) ⟨alloc_bel hCW (Nat.le_of_eq hOe.out) _, _, ⟨RwsO.next hK.1 (alloc_bel (Below.refl _ _) (Nat.le_refl _) _), RwsO.next hK.2.1 (alloc_bel (Below.refl _ _) (Nat.le_refl _) _), RwsO.next hK.2.2.1 (alloc_bel (Below.refl _ _) (Nat.le_refl _) _), ((alloc_bel (Below.refl _ _) (Nat.le_refl _) _).block _ (Array.getElem?_eq_some_iff.1 hK.2.2.2.1).1).trans hK.2.2.2.1, ((alloc_bel (Below.refl _ _) (Nat.le_refl _) _).block _ (Array.getElem?_eq_some_iff.1 hK.2.2.2.2.1).1).trans hK.2.2.2.2.1, ((alloc_bel (Below.refl _ _) (Nat.le_refl _) _).block _ (Array.getElem?_eq_some_iff.1 hK.2.2.2.2.2).1).trans hK.2.2.2.2.2, alloc_at1 W _⟩, W.heap.size, rfl, rfl⟩
            rintro _ _ ⟨gT, rfl, rfl⟩
            simp only [Act.put, List.setIfInBounds_toArray, List.set_cons_zero, List.set_cons_succ]
            refine k_val (.int .i64 3) (by apply opN; repeat' (first | apply OpAt.z | apply OpAt.s)) (by rfl) (by rfl) (fun _ W hS => op_ln3 (n := 3) rfl rfl) ?_
            simp only [Act.put, List.setIfInBounds_toArray, List.set_cons_zero, List.set_cons_succ]
            refine k_nil ?_
            intro W hCW hK
            have hG9 := hide (show (∃ s0 s1 s2 : Nat, W.heap[gT]? = some (.cells #[.slice (some ⟨s0, 0, none⟩) 2 2, .slice (some ⟨s1, 0, none⟩) 2 2, .slice (some ⟨s2, 0, none⟩) 2 2] 32 (0, 0)) ∧ (∃ v1 v2, PrV W s0 za v1 M zb v2 N) ∧ (∃ v1 v2, PrV W s1 y v1 A y v2 E) ∧ ∃ v1 v2, PrV W s2 za v1 M y v2 E) ∧ Below O w3 W from
              ⟨⟨g2, g9, g14, hK.2.2.2.2.2.2, ⟨vk, vm, hK.2.2.2.1, (h3.out W hCW).2.2.1, (h3.out W hCW).2.2.2.2, hMk.out.1, hNk.out.1, hMk.out.2, hNk.out.2⟩, ⟨v1, v2, hK.2.2.2.2.1, RwsO.row hK.1, RwsO.row hK.2.1, hAk.out.1, hEk.out.1, hAk.out.2, hEk.out.2⟩, ⟨vk, v3, hK.2.2.2.2.2.1, (h3.out W hCW).2.2.1, RwsO.row hK.2.2.1, hMk.out.1, hEk.out.1, hMk.out.2, hEk.out.2⟩⟩, hCW⟩)
            clear hCW hK
            go_wp2
            all_goals go_meet
            all_goals exact ⟨gT, rfl, rfl, rfl, hG9.out⟩
      · refine k_one (fun K' u => ∃ v2, u = .agg (bks y v2) ∧ K' = fun W => RwsO W O v1 A ∧ RwsO W O v2 E) (by apply opN; repeat' (first | apply OpAt.z | apply OpAt.s)) (by rfl) (by rfl) (by rfl) (fun W hCW hK => ?_) ?_
        · refine op_x2 rfl rfl rfl rfl cf_makeq ?_
          refine (hMy.out W (h3.out W hCW).1.bel).mono ?_
          rintro e W' ⟨v2, rfl, h4, h5⟩
          exact ⟨_, rfl, hCW.trans (h5.mono (hsz.out W hCW)), _, ⟨RwsO.next hK h5, own_base h4 (hsz.out W hCW)⟩, v2, rfl, rfl⟩
        rintro _ _ ⟨v2, rfl, rfl⟩
        simp only [Act.put, List.setIfInBounds_toArray, List.set_cons_zero, List.set_cons_succ]
        refine h_fork3 ?_ ?_ ?_
        · refine k_one (fun K' u => ∃ g2, u = .slice (some ⟨g2, 0, none⟩) 2 2 ∧ K' = fun W => RwsO W O v1 A ∧ RwsO W O v2 E ∧ W.heap[g2]? = some (.cells (bk2 za vk zb vm) 28 (0, 0))) (by apply opN; repeat' (first | apply OpAt.z | apply OpAt.s)) (by rfl) (by rfl) (by rfl) (fun W hCW hK => ?_) ?_
          · exact xup_val (op_b2 rfl rfl rfl) ⟨alloc_bel hCW (Nat.le_of_eq hOe.out) _, _, ⟨RwsO.next hK.1 (alloc_bel (Below.refl _ _) (Nat.le_refl _) _), RwsO.next hK.2 (alloc_bel (Below.refl _ _) (Nat.le_refl _) _), alloc_at1 W _⟩, W.heap.size, rfl, rfl⟩
          rintro _ _ ⟨g2, rfl, rfl⟩
          simp only [Act.put, List.setIfInBounds_toArray, List.set_cons_zero, List.set_cons_succ]
          refine h_fork ?_ ?_
          · refine k_one (fun K' u => ∃ g9, u = .slice (some ⟨g9, 0, none⟩) 2 2 ∧ K' = fun W => RwsO W O v1 A ∧ RwsO W O v2 E ∧ W.heap[g2]? = some (.cells (bk2 za vk zb vm) 28 (0, 0)) ∧ W.heap[g9]? = some (.cells (bk2 y v1 y v2) 28 (0, 0))) (by apply opN; repeat' (first | apply OpAt.z | apply OpAt.s)) (by rfl) (by rfl) (by rfl) (fun W hCW hK => ?_) ?_
            · exact xup_val (op_b2 rfl rfl rfl) ⟨alloc_bel hCW (Nat.le_of_eq hOe.out) _, _, ⟨RwsO.next hK.1 (alloc_bel (Below.refl _ _) (Nat.le_refl _) _), RwsO.next hK.2.1 (alloc_bel (Below.refl _ _) (Nat.le_refl _) _), ((alloc_bel (Below.refl _ _) (Nat.le_refl _) _).block _ (Array.getElem?_eq_some_iff.1 hK.2.2).1).trans hK.2.2, alloc_at1 W _⟩, W.heap.size, rfl, rfl⟩
            rintro _ _ ⟨g9, rfl, rfl⟩
            simp only [Act.put, List.setIfInBounds_toArray, List.set_cons_zero, List.set_cons_succ]
            refine k_step (fun K' u => ∃ v3, u = .agg (bks y v3) ∧ K' = fun W => RwsO W O v1 A ∧ RwsO W O v2 E ∧ RwsO W O v3 E ∧ W.heap[g2]? = some (.cells (bk2 za vk zb vm) 28 (0, 0)) ∧ W.heap[g9]? = some (.cells (bk2 y v1 y v2) 28 (0, 0))) (by apply opN; repeat' (first | apply OpAt.z | apply OpAt.s)) (by rfl) (by rfl) (by rfl) (fun W hCW hK => ?_) ?_
            · refine op_x2 rfl rfl rfl rfl cf_makeq ?_
              refine (hMy.out W (h3.out W hCW).1.bel).mono ?_
              rintro e W' ⟨v3, rfl, h4, h5⟩
              exact ⟨_, rfl, hCW.trans (h5.mono (hsz.out W hCW)), _, ⟨RwsO.next hK.1 h5, RwsO.next hK.2.1 h5, own_base h4 (hsz.out W hCW), (h5.block _ (Array.getElem?_eq_some_iff.1 hK.2.2.1).1).trans hK.2.2.1, (h5.block _ (Array.getElem?_eq_some_iff.1 hK.2.2.2).1).trans hK.2.2.2⟩, v3, rfl, rfl⟩
            rintro _ _ ⟨v3, rfl, rfl⟩
            simp only [Act.put, List.setIfInBounds_toArray, List.set_cons_zero, List.set_cons_succ]
            refine k_step (fun K' u => ∃ g14, u = .slice (some ⟨g14, 0, none⟩) 2 2 ∧ K' = fun W => RwsO W O v1 A ∧ RwsO W O v2 E ∧ RwsO W O v3 E ∧ W.heap[g2]? = some (.cells (bk2 za vk zb vm) 28 (0, 0)) ∧ W.heap[g9]? = some (.cells (bk2 y v1 y v2) 28 (0, 0)) ∧ W.heap[g14]? = some (.cells (bk2 za vk y v3) 28 (0, 0))) (by apply opN; repeat' (first | apply OpAt.z | apply OpAt.s)) (by rfl) (by rfl) (by rfl) (fun W hCW hK => ?_) ?_
            · exact xup_val (op_b2 rfl rfl rfl) ⟨alloc_bel hCW (Nat.le_of_eq hOe.out) _, _, ⟨RwsO.next hK.1 (alloc_bel (Below.refl _ _) (Nat.le_refl _) _), RwsO.next hK.2.1 (alloc_bel (Below.refl _ _) (Nat.le_refl _) _), RwsO.next hK.2.2.1 (alloc_bel (Below.refl _ _) (Nat.le_refl _) _), ((alloc_bel (Below.refl _ _) (Nat.le_refl _) _).block _ (Array.getElem?_eq_some_iff.1 hK.2.2.2.1).1).trans hK.2.2.2.1, ((alloc_bel (Below.refl _ _) (Nat.le_refl _) _).block _ (Array.getElem?_eq_some_iff.1 hK.2.2.2.2).1).trans hK.2.2.2.2, alloc_at1 W _⟩, W.heap.size, rfl, rfl⟩
            rintro _ _ ⟨g14, rfl, rfl⟩
            simp only [Act.put, List.setIfInBounds_toArray, List.set_cons_zero, List.set_cons_succ]
            refine k_step (fun K' u => ∃ gT, u = .slice (some ⟨gT, 0, none⟩) 3 3 ∧ K' = fun W => RwsO W O v1 A ∧ RwsO W O v2 E ∧ RwsO W O v3 E ∧ W.heap[g2]? = some (.cells (bk2 za vk zb vm) 28 (0, 0)) ∧ W.heap[g9]? = some (.cells (bk2 y v1 y v2) 28 (0, 0)) ∧ W.heap[g14]? = some (.cells (bk2 za vk y v3) 28 (0, 0)) ∧ W.heap[gT]? = some (.cells #[.slice (some ⟨g2, 0, none⟩) 2 2, .slice (some ⟨g9, 0, none⟩) 2 2, .slice (some ⟨g14, 0, none⟩) 2 2] 32 (0, 0))) (by apply opN; repeat' (first | apply OpAt.z | apply OpAt.s)) (by rfl) (by rfl) (by rfl) (fun W hCW hK => ?_) ?_
            · exact xup_val (op_b3 rfl rfl rfl rfl) ⟨alloc_bel hCW (Nat.le_of_eq hOe.out) _, _, ⟨RwsO.next hK.1 (alloc_bel (Below.refl _ _) (Nat.le_refl _) _), RwsO.next hK.2.1 (alloc_bel (Below.refl _ _) (Nat.le_refl _) _), RwsO.next hK.2.2.1 (alloc_bel (Below.refl _ _) (Nat.le_refl _) _), ((alloc_bel (Below.refl _ _) (Nat.le_refl _) _).block _ (Array.getElem?_eq_some_iff.1 hK.2.2.2.1).1).trans hK.2.2.2.1, ((alloc_bel (Below.refl _ _) (Nat.le_refl _) _).block _ (Array.getElem?_eq_some_iff.1 hK.2.2.2.2.1).1).trans hK.2.2.2.2.1, ((alloc_bel (Below.refl _ _) (Nat.le_refl _) _).block _ (Array.getElem?_eq_some_iff.1 hK.2.2.2.2.2).1).trans hK.2.2.2.2.2, alloc_at1 W _⟩, W.heap.size, rfl, rfl⟩
            rintro _ _ ⟨gT, rfl, rfl⟩
            simp only [Act.put, List.setIfInBounds_toArray, List.set_cons_zero, List.set_cons_succ]
            refine k_val (.int .i64 3) (by apply opN; repeat' (first | apply OpAt.z | apply OpAt.s)) (by rfl) (by rfl) (fun _ W hS => op_ln3 (n := 3) rfl rfl) ?_
            simp only [Act.put, List.setIfInBounds_toArray, List.set_cons_zero, List.set_cons_succ]
            refine k_nil ?_
            intro W hCW hK
            have hG9 := hide (show (∃ s0 s1 s2 : Nat, W.heap[gT]? = some (.cells #[.slice (some ⟨s0, 0, none⟩) 2 2, .slice (some ⟨s1, 0, none⟩) 2 2, .slice (some ⟨s2, 0, none⟩) 2 2] 32 (0, 0)) ∧ (∃ v1 v2, PrV W s0 za v1 M zb v2 N) ∧ (∃ v1 v2, PrV W s1 y v1 A y v2 E) ∧ ∃ v1 v2, PrV W s2 za v1 M y v2 E) ∧ Below O w3 W from
              ⟨⟨g2, g9, g14, hK.2.2.2.2.2.2, ⟨vk, vm, hK.2.2.2.1, (h3.out W hCW).2.2.1, (h3.out W hCW).2.2.2.2, hMk.out.1, hNk.out.1, hMk.out.2, hNk.out.2⟩, ⟨v1, v2, hK.2.2.2.2.1, RwsO.row hK.1, RwsO.row hK.2.1, hAk.out.1, hEk.out.1, hAk.out.2, hEk.out.2⟩, ⟨vk, v3, hK.2.2.2.2.2.1, (h3.out W hCW).2.2.1, RwsO.row hK.2.2.1, hMk.out.1, hEk.out.1, hMk.out.2, hEk.out.2⟩⟩, hCW⟩)
            clear hCW hK
            go_wp2
            all_goals go_meet
            all_goals exact ⟨gT, rfl, rfl, rfl, hG9.out⟩
          · refine k_one (fun K' u => ∃ v3, u = .agg (bks y v3) ∧ K' = fun W => RwsO W O v1 A ∧ RwsO W O v2 E ∧ RwsO W O v3 E ∧ W.heap[g2]? = some (.cells (bk2 za vk zb vm) 28 (0, 0))) (by apply opN; repeat' (first | apply OpAt.z | apply OpAt.s)) (by rfl) (by rfl) (by rfl) (fun W hCW hK => ?_) ?_
            · refine op_x2 rfl rfl rfl rfl cf_makeq ?_
              refine (hMy.out W (h3.out W hCW).1.bel).mono ?_
              rintro e W' ⟨v3, rfl, h4, h5⟩
              exact ⟨_, rfl, hCW.trans (h5.mono (hsz.out W hCW)), _, ⟨RwsO.next hK.1 h5, RwsO.next hK.2.1 h5, own_base h4 (hsz.out W hCW), (h5.block _ (Array.getElem?_eq_some_iff.1 hK.2.2).1).trans hK.2.2⟩, v3, rfl, rfl⟩
            rintro _ _ ⟨v3, rfl, rfl⟩
            simp only [Act.put, List.setIfInBounds_toArray, List.set_cons_zero, List.set_cons_succ]
            refine h_fork ?_ ?_
            · refine k_one (fun K' u => ∃ g9, u = .slice (some ⟨g9, 0, none⟩) 2 2 ∧ K' = fun W => RwsO W O v1 A ∧ RwsO W O v2 E ∧ RwsO W O v3 E ∧ W.heap[g2]? = some (.cells (bk2 za vk zb vm) 28 (0, 0)) ∧ W.heap[g9]? = some (.cells (bk2 y v1 y v2) 28 (0, 0))) (by apply opN; repeat' (first | apply OpAt.z | apply OpAt.s)) (by rfl) (by rfl) (by rfl) (fun W hCW hK => ?_) ?_
              · exact xup_val (op_b2 rfl rfl rfl) ⟨alloc_bel hCW (Nat.le_of_eq hOe.out) _, _, ⟨RwsO.next hK.1 (alloc_bel (Below.refl _ _) (Nat.le_refl _) _), RwsO.next hK.2.1 (alloc_bel (Below.refl _ _) (Nat.le_refl _) _), RwsO.next hK.2.2.1 (alloc_bel (Below.refl _ _) (Nat.le_refl _) _), ((alloc_bel (Below.refl _ _) (Nat.le_refl _) _).block _ (Array.getElem?_eq_some_iff.1 hK.2.2.2).1).trans hK.2.2.2, alloc_at1 W _⟩, W.heap.size, rfl, rfl⟩
              rintro _ _ ⟨g9, rfl, rfl⟩
              simp only [Act.put, List.setIfInBounds_toArray, List.set_cons_zero, List.set_cons_succ]
              refine k_step (fun K' u => ∃ g14, u = .slice (some ⟨g14, 0, none⟩) 2 2 ∧ K' = fun W => RwsO W O v1 A ∧ RwsO W O v2 E ∧ RwsO W O v3 E ∧ W.heap[g2]? = some (.cells (bk2 za vk zb vm) 28 (0, 0)) ∧ W.heap[g9]? = some (.cells (bk2 y v1 y v2) 28 (0, 0)) ∧ W.heap[g14]? = some (.cells (bk2 za vk y v3) 28 (0, 0))) (by apply opN; repeat' (first | apply OpAt.z | apply OpAt.s)) (by rfl) (by rfl) (by rfl) (fun W hCW hK => ?_) ?_
              · exact xup_val (op_b2 rfl rfl rfl) ⟨alloc_bel hCW (Nat.le_of_eq hOe.out) _, _, ⟨RwsO.next hK.1 (alloc_bel (Below.refl _ _) (Nat.le_refl _) _), RwsO.next hK.2.1 (alloc_bel (Below.refl _ _) (Nat.le_refl _) _), RwsO.next hK.2.2.1 (alloc_bel (Below.refl _ _) (Nat.le_refl _) _), ((alloc_bel (Below.refl _ _) (Nat.le_refl _) _).block _ (Array.getElem?_eq_some_iff.1 hK.2.2.2.1).1).trans hK.2.2.2.1, ((alloc_bel (Below.refl _ _) (Nat.le_refl _) _).block _ (Array.getElem?_eq_some_iff.1 hK.2.2.2.2).1).trans hK.2.2.2.2, alloc_at1 W _⟩, W.heap.size, rfl, rfl⟩
              rintro _ _ ⟨g14, rfl, rfl⟩
              simp only [Act.put, List.setIfInBounds_toArray, List.set_cons_zero, List.set_cons_succ]
              refine k_step (fun K' u => ∃ gT, u = .slice (some ⟨gT, 0, none⟩) 3 3 ∧ K' = fun W => RwsO W O v1 A ∧ RwsO W O v2 E ∧ RwsO W O v3 E ∧ W.heap[g2]? = some (.cells (bk2 za vk zb vm) 28 (0, 0)) ∧ W.heap[g9]? = some (.cells (bk2 y v1 y v2) 28 (0, 0)) ∧ W.heap[g14]? = some (.cells (bk2 za vk y v3) 28 (0, 0)) ∧ W.heap[gT]? = some (.cells #[.slice (some ⟨g2, 0, none⟩) 2 2, .slice (some ⟨g9, 0, none⟩) 2 2, .slice (some ⟨g14, 0, none⟩) 2 2] 32 (0, 0))) (by apply opN; repeat' (first | apply OpAt.z | apply OpAt.s)) (by rfl) (by rfl) (by rfl) (fun W hCW hK => ?_) ?_
              · exact xup_val (op_b3 rfl rfl rfl rfl) ⟨alloc_bel hCW (Nat.le_of_eq hOe.out) _, _, ⟨RwsO.next hK.1 (alloc_bel (Below.refl _ _) (Nat.le_refl _) _), RwsO.next hK.2.1 (alloc_bel (Below.refl _ _) (Nat.le_refl _) _), RwsO.next hK.2.2.1 (alloc_bel (Below.refl _ _) (Nat.le_refl _) _), ((alloc_bel (Below.refl _ _) (Nat.le_refl _) _).block _ (Array.getElem?_eq_some_iff.1 hK.2.2.2.1).1).trans hK.2.2.2.1, ((alloc_bel (Below.refl _ _) (Nat.le_refl _) _).block _ (Array.getElem?_eq_some_iff.1 hK.2.2.2.2.1).1).trans hK.2.2.2.2.1, ((alloc_bel (Below.refl _ _) (Nat.le_refl _) _).block _ (Array.getElem?_eq_some_iff.1 hK.2.2.2.2.2).1).trans hK.2.2.2.2.2, alloc_at1 W _⟩, W.heap.size, rfl, rfl⟩
              rintro _ _ ⟨gT, rfl, rfl⟩
              simp only [Act.put, List.setIfInBounds_toArray, List.set_cons_zero, List.set_cons_succ]
              refine k_val (.int .i64 3) (by apply opN; repeat' (first | apply OpAt.z | apply OpAt.s)) (by rfl) (by rfl) (fun _ W hS => op_ln3 (n := 3) rfl rfl) ?_
              simp only [Act.put, List.setIfInBounds_toArray, List.set_cons_zero, List.set_cons_succ]
              refine k_nil ?_
              intro W hCW hK
              have hG9 := hide (show (∃ s0 s1 s2 : Nat, W.heap[gT]? = some (.cells #[.slice (some ⟨s0, 0, none⟩) 2 2, .slice (some ⟨s1, 0, none⟩) 2 2, .slice (some ⟨s2, 0, none⟩) 2 2] 32 (0, 0)) ∧ (∃ v1 v2, PrV W s0 za v1 M zb v2 N) ∧ (∃ v1 v2, PrV W s1 y v1 A y v2 E) ∧ ∃ v1 v2, PrV W s2 za v1 M y v2 E) ∧ Below O w3 W from
                ⟨⟨g2, g9, g14, hK.2.2.2.2.2.2, ⟨vk, vm, hK.2.2.2.1, (h3.out W hCW).2.2.1, (h3.out W hCW).2.2.2.2, hMk.out.1, hNk.out.1, hMk.out.2, hNk.out.2⟩, ⟨v1, v2, hK.2.2.2.2.1, RwsO.row hK.1, RwsO.row hK.2.1, hAk.out.1, hEk.out.1, hAk.out.2, hEk.out.2⟩, ⟨vk, v3, hK.2.2.2.2.2.1, (h3.out W hCW).2.2.1, RwsO.row hK.2.2.1, hMk.out.1, hEk.out.1, hMk.out.2, hEk.out.2⟩⟩, hCW⟩)
              clear hCW hK
              go_wp2
              all_goals go_meet
              all_goals exact ⟨gT, rfl, rfl, rfl, hG9.out⟩
            · refine k_one (fun K' u => ∃ g14, u = .slice (some ⟨g14, 0, none⟩) 2 2 ∧ K' = fun W => RwsO W O v1 A ∧ RwsO W O v2 E ∧ RwsO W O v3 E ∧ W.heap[g2]? = some (.cells (bk2 za vk zb vm) 28 (0, 0)) ∧ W.heap[g14]? = some (.cells (bk2 za vk y v3) 28 (0, 0))) (by apply opN; repeat' (first | apply OpAt.z | apply OpAt.s)) (by rfl) (by rfl) (by rfl) (fun W hCW hK => ?_) ?_
              · exact xup_val (op_b2 rfl rfl rfl) ⟨alloc_bel hCW (Nat.le_of_eq hOe.out) _, _, ⟨RwsO.next hK.1 (alloc_bel (Below.refl _ _) (Nat.le_refl _) _), RwsO.next hK.2.1 (alloc_bel (Below.refl _ _) (Nat.le_refl _) _), RwsO.next hK.2.2.1 (alloc_bel (Below.refl _ _) (Nat.le_refl _) _), ((alloc_bel (Below.refl _ _) (Nat.le_refl _) _).block _ (Array.getElem?_eq_some_iff.1 hK.2.2.2).1).trans hK.2.2.2, alloc_at1 W _⟩, W.heap.size, rfl, rfl⟩
              rintro _ _ ⟨g14, rfl, rfl⟩
              simp only [Act.put, List.setIfInBounds_toArray, List.set_cons_zero, List.set_cons_succ]
              refine k_step (fun K' u => ∃ g9, u = .slice (some ⟨g9, 0, none⟩) 2 2 ∧ K' = fun W => RwsO W O v1 A ∧ RwsO W O v2 E ∧ RwsO W O v3 E ∧ W.heap[g2]? = some (.cells (bk2 za vk zb vm) 28 (0, 0)) ∧ W.heap[g9]? = some (.cells (bk2 y v1 y v2) 28 (0, 0)) ∧ W.heap[g14]? = some (.cells (bk2 za vk y v3) 28 (0, 0))) (by apply opN; repeat' (first | apply OpAt.z | apply OpAt.s)) (by rfl) (by rfl) (by rfl) (fun W hCW hK => ?_) ?_
              · exact xup_val (op_b2 rfl rfl rfl) ⟨alloc_bel hCW (Nat.le_of_eq hOe.out) _, _, ⟨RwsO.next hK.1 (alloc_bel (Below.refl _ _) (Nat.le_refl _) _), RwsO.next hK.2.1 (alloc_bel (Below.refl _ _) (Nat.le_refl _) _), RwsO.next hK.2.2.1 (alloc_bel (Below.refl _ _) (Nat.le_refl _) _), ((alloc_bel (Below.refl _ _) (Nat.le_refl _) _).block _ (Array.getElem?_eq_some_iff.1 hK.2.2.2.1).1).trans hK.2.2.2.1, alloc_at1 W _, ((alloc_bel (Below.refl _ _) (Nat.le_refl _) _).block _ (Array.getElem?_eq_some_iff.1 hK.2.2.2.2).1).trans hK.2.2.2.2⟩, W.heap.size, rfl, rfl⟩
              rintro _ _ ⟨g9, rfl, rfl⟩
              simp only [Act.put, List.setIfInBounds_toArray, List.set_cons_zero, List.set_cons_succ]
              refine k_step (fun K' u => ∃ gT, u = .slice (some ⟨gT, 0, none⟩) 3 3 ∧ K' = fun W => RwsO W O v1 A ∧ RwsO W O v2 E ∧ RwsO W O v3 E ∧ W.heap[g2]? = some (.cells (bk2 za vk zb vm) 28 (0, 0)) ∧ W.heap[g9]? = some (.cells (bk2 y v1 y v2) 28 (0, 0)) ∧ W.heap[g14]? = some (.cells (bk2 za vk y v3) 28 (0, 0)) ∧ W.heap[gT]? = some (.cells #[.slice (some ⟨g2, 0, none⟩) 2 2, .slice (some ⟨g9, 0, none⟩) 2 2, .slice (some ⟨g14, 0, none⟩) 2 2] 32 (0, 0))) (by apply opN; repeat' (first | apply OpAt.z | apply OpAt.s)) (by rfl) (by rfl) (by rfl) (fun W hCW hK => ?_) ?_
              · exact xup_val (op_b3 rfl rfl rfl rfl) ⟨alloc_bel hCW (Nat.le_of_eq hOe.out) _, _, ⟨RwsO.next hK.1 (alloc_bel (Below.refl _ _) (Nat.le_refl _) _), RwsO.next hK.2.1 (alloc_bel (Below.refl _ _) (Nat.le_refl _) _), RwsO.next hK.2.2.1 (alloc_bel (Below.refl _ _) (Nat.le_refl _) _), ((alloc_bel (Below.refl _ _) (Nat.le_refl _) _).block _ (Array.getElem?_eq_some_iff.1 hK.2.2.2.1).1).trans hK.2.2.2.1, ((alloc_bel (Below.refl _ _) (Nat.le_refl _) _).block _ (Array.getElem?_eq_some_iff.1 hK.2.2.2.2.1).1).trans hK.2.2.2.2.1, ((alloc_bel (Below.refl _ _) (Nat.le_refl _) _).block _ (Array.getElem?_eq_some_iff.1 hK.2.2.2.2.2).1).trans hK.2.2.2.2.2, alloc_at1 W _⟩, W.heap.size, rfl, rfl⟩
              rintro _ _ ⟨gT, rfl, rfl⟩
              simp only [Act.put, List.setIfInBounds_toArray, List.set_cons_zero, List.set_cons_succ]
              refine k_val (.int .i64 3) (by apply opN; repeat' (first | apply OpAt.z | apply OpAt.s)) (by rfl) (by rfl) (fun _ W hS => op_ln3 (n := 3) rfl rfl) ?_
              simp only [Act.put, List.setIfInBounds_toArray, List.set_cons_zero, List.set_cons_succ]
              refine k_nil ?_
              intro W hCW hK
              have hG9 := hide (show (∃ s0 s1 s2 : Nat, W.heap[gT]? = some (.cells #[.slice (some ⟨s0, 0, none⟩) 2 2, .slice (some ⟨s1, 0, none⟩) 2 2, .slice (some ⟨s2, 0, none⟩) 2 2] 32 (0, 0)) ∧ (∃ v1 v2, PrV W s0 za v1 M zb v2 N) ∧ (∃ v1 v2, PrV W s1 y v1 A y v2 E) ∧ ∃ v1 v2, PrV W s2 za v1 M y v2 E) ∧ Below O w3 W from
                ⟨⟨g2, g9, g14, hK.2.2.2.2.2.2, ⟨vk, vm, hK.2.2.2.1, (h3.out W hCW).2.2.1, (h3.out W hCW).2.2.2.2, hMk.out.1, hNk.out.1, hMk.out.2, hNk.out.2⟩, ⟨v1, v2, hK.2.2.2.2.1, RwsO.row hK.1, RwsO.row hK.2.1, hAk.out.1, hEk.out.1, hAk.out.2, hEk.out.2⟩, ⟨vk, v3, hK.2.2.2.2.2.1, (h3.out W hCW).2.2.1, RwsO.row hK.2.2.1, hMk.out.1, hEk.out.1, hMk.out.2, hEk.out.2⟩⟩, hCW⟩)
              clear hCW hK
              go_wp2
              all_goals go_meet
              all_goals exact ⟨gT, rfl, rfl, rfl, hG9.out⟩
        · refine k_one (fun K' u => ∃ g9, u = .slice (some ⟨g9, 0, none⟩) 2 2 ∧ K' = fun W => RwsO W O v1 A ∧ RwsO W O v2 E ∧ W.heap[g9]? = some (.cells (bk2 y v1 y v2) 28 (0, 0))) (by apply opN; repeat' (first | apply OpAt.z | apply OpAt.s)) (by rfl) (by rfl) (by rfl) (fun W hCW hK => ?_) ?_
          · exact xup_val (op_b2 rfl rfl rfl) ⟨alloc_bel hCW (Nat.le_of_eq hOe.out) _, _, ⟨RwsO.next hK.1 (alloc_bel (Below.refl _ _) (Nat.le_refl _) _), RwsO.next hK.2 (alloc_bel (Below.refl _ _) (Nat.le_refl _) _), alloc_at1 W _⟩, W.heap.size, rfl, rfl⟩
          rintro _ _ ⟨g9, rfl, rfl⟩
          simp only [Act.put, List.setIfInBounds_toArray, List.set_cons_zero, List.set_cons_succ]
          refine h_fork ?_ ?_
          · refine k_one (fun K' u => ∃ g2, u = .slice (some ⟨g2, 0, none⟩) 2 2 ∧ K' = fun W => RwsO W O v1 A ∧ RwsO W O v2 E ∧ W.heap[g2]? = some (.cells (bk2 za vk zb vm) 28 (0, 0)) ∧ W.heap[g9]? = some (.cells (bk2 y v1 y v2) 28 (0, 0))) (by apply opN; repeat' (first | apply OpAt.z | apply OpAt.s)) (by rfl) (by rfl) (by rfl) (fun W hCW hK => ?_) ?_
            · exact xup_val (op_b2 rfl rfl rfl) ⟨alloc_bel hCW (Nat.le_of_eq hOe.out) _, _, ⟨RwsO.next hK.1 (alloc_bel (Below.refl _ _) (Nat.le_refl _) _), RwsO.next hK.2.1 (alloc_bel (Below.refl _ _) (Nat.le_refl _) _), alloc_at1 W _, ((alloc_bel (Below.refl _ _) (Nat.le_refl _) _).block _ (Array.getElem?_eq_some_iff.1 hK.2.2).1).trans hK.2.2⟩, W.heap.size, rfl, rfl⟩
            rintro _ _ ⟨g2, rfl, rfl⟩
            simp only [Act.put, List.setIfInBounds_toArray, List.set_cons_zero, List.set_cons_succ]
            refine k_step (fun K' u => ∃ v3, u = .agg (bks y v3) ∧ K' = fun W => RwsO W O v1 A ∧ RwsO W O v2 E ∧ RwsO W O v3 E ∧ W.heap[g2]? = some (.cells (bk2 za vk zb vm) 28 (0, 0)) ∧ W.heap[g9]? = some (.cells (bk2 y v1 y v2) 28 (0, 0))) (by apply opN; repeat' (first | apply OpAt.z | apply OpAt.s)) (by rfl) (by rfl) (by rfl) (fun W hCW hK => ?_) ?_
            · refine op_x2 rfl rfl rfl rfl cf_makeq ?_
              refine (hMy.out W (h3.out W hCW).1.bel).mono ?_
              rintro e W' ⟨v3, rfl, h4, h5⟩
              exact ⟨_, rfl, hCW.trans (h5.mono (hsz.out W hCW)), _, ⟨RwsO.next hK.1 h5, RwsO.next hK.2.1 h5, own_base h4 (hsz.out W hCW), (h5.block _ (Array.getElem?_eq_some_iff.1 hK.2.2.1).1).trans hK.2.2.1, (h5.block _ (Array.getElem?_eq_some_iff.1 hK.2.2.2).1).trans hK.2.2.2⟩, v3, rfl, rfl⟩
            rintro _ _ ⟨v3, rfl, rfl⟩
            simp only [Act.put, List.setIfInBounds_toArray, List.set_cons_zero, List.set_cons_succ]
            refine k_step (fun K' u => ∃ g14, u = .slice (some ⟨g14, 0, none⟩) 2 2 ∧ K' = fun W => RwsO W O v1 A ∧ RwsO W O v2 E ∧ RwsO W O v3 E ∧ W.heap[g2]? = some (.cells (bk2 za vk zb vm) 28 (0, 0)) ∧ W.heap[g9]? = some (.cells (bk2 y v1 y v2) 28 (0, 0)) ∧ W.heap[g14]? = some (.cells (bk2 za vk y v3) 28 (0, 0))) (by apply opN; repeat' (first | apply OpAt.z | apply OpAt.s)) (by rfl) (by rfl) (by rfl) (fun W hCW hK => ?_) ?_
            · exact xup_val (op_b2 rfl rfl rfl) ⟨alloc_bel hCW (Nat.le_of_eq hOe.out) _, _, ⟨RwsO.next hK.1 (alloc_bel (Below.refl _ _) (Nat.le_refl _) _), RwsO.next hK.2.1 (alloc_bel (Below.refl _ _) (Nat.le_refl _) _), RwsO.next hK.2.2.1 (alloc_bel (Below.refl _ _) (Nat.le_refl _) _), ((alloc_bel (Below.refl _ _) (Nat.le_refl _) _).block _ (Array.getElem?_eq_some_iff.1 hK.2.2.2.1).1).trans hK.2.2.2.1, ((alloc_bel (Below.refl _ _) (Nat.le_refl _) _).block _ (Array.getElem?_eq_some_iff.1 hK.2.2.2.2).1).trans hK.2.2.2.2, alloc_at1 W _⟩, W.heap.size, rfl, rfl⟩
            rintro _ _ ⟨g14, rfl, rfl⟩
            simp only [Act.put, List.setIfInBounds_toArray, List.set_cons_zero, List.set_cons_succ]
            refine k_step (fun K' u => ∃ gT, u = .slice (some ⟨gT, 0, none⟩) 3 3 ∧ K' = fun W => RwsO W O v1 A ∧ RwsO W O v2 E ∧ RwsO W O v3 E ∧ W.heap[g2]? = some (.cells (bk2 za vk zb vm) 28 (0, 0)) ∧ W.heap[g9]? = some (.cells (bk2 y v1 y v2) 28 (0, 0)) ∧ W.heap[g14]? = some (.cells (bk2 za vk y v3) 28 (0, 0)) ∧ W.heap[gT]? = some (.cells #[.slice (some ⟨g2, 0, none⟩) 2 2, .slice (some ⟨g9, 0, none⟩) 2 2, .slice (some ⟨g14, 0, none⟩) 2 2] 32 (0, 0))) (by apply opN; repeat' (first | apply OpAt.z | apply OpAt.s)) (by rfl) (by rfl) (by rfl) (fun W hCW hK => ?_) ?_
            · exact xup_val (op_b3 rfl rfl rfl rfl) ⟨alloc_bel hCW (Nat.le_of_eq hOe.out) _, _, ⟨RwsO.next hK.1 (alloc_bel (Below.refl _ _) (Nat.le_refl _) _), RwsO.next hK.2.1 (alloc_bel (Below.refl _ _) (Nat.le_refl _) _), RwsO.next hK.2.2.1 (alloc_bel (Below.refl _ _) (Nat.le_refl _) _), ((alloc_bel (Below.refl _ _) (Nat.le_refl _) _).block _ (Array.getElem?_eq_some_iff.1 hK.2.2.2.1).1).trans hK.2.2.2.1, ((alloc_bel (Below.refl _ _) (Nat.le_refl _) _).block _ (Array.getElem?_eq_some_iff.1 hK.2.2.2.2.1).1).trans hK.2.2.2.2.1, ((alloc_bel (Below.refl _ _) (Nat.le_refl _) _).block _ (Array.getElem?_eq_some_iff.1 hK.2.2.2.2.2).1).trans hK.2.2.2.2.2, alloc_at1 W _⟩, W.heap.size, rfl, rfl⟩
            rintro _ _ ⟨gT, rfl, rfl⟩
            simp only [Act.put, List.setIfInBounds_toArray, List.set_cons_zero, List.set_cons_succ]
            refine k_val (.int .i64 3) (by apply opN; repeat' (first | apply OpAt.z | apply OpAt.s)) (by rfl) (by rfl) (fun _ W hS => op_ln3 (n := 3) rfl rfl) ?_
            simp only [Act.put, List.setIfInBounds_toArray, List.set_cons_zero, List.set_cons_succ]
            refine k_nil ?_
            intro W hCW hK
            have hG9 := hide (show (∃ s0 s1 s2 : Nat, W.heap[gT]? = some (.cells #[.slice (some ⟨s0, 0, none⟩) 2 2, .slice (some ⟨s1, 0, none⟩) 2 2, .slice (some ⟨s2, 0, none⟩) 2 2] 32 (0, 0)) ∧ (∃ v1 v2, PrV W s0 za v1 M zb v2 N) ∧ (∃ v1 v2, PrV W s1 y v1 A y v2 E) ∧ ∃ v1 v2, PrV W s2 za v1 M y v2 E) ∧ Below O w3 W from
              ⟨⟨g2, g9, g14, hK.2.2.2.2.2.2, ⟨vk, vm, hK.2.2.2.1, (h3.out W hCW).2.2.1, (h3.out W hCW).2.2.2.2, hMk.out.1, hNk.out.1, hMk.out.2, hNk.out.2⟩, ⟨v1, v2, hK.2.2.2.2.1, RwsO.row hK.1, RwsO.row hK.2.1, hAk.out.1, hEk.out.1, hAk.out.2, hEk.out.2⟩, ⟨vk, v3, hK.2.2.2.2.2.1, (h3.out W hCW).2.2.1, RwsO.row hK.2.2.1, hMk.out.1, hEk.out.1, hMk.out.2, hEk.out.2⟩⟩, hCW⟩)
            clear hCW hK
            go_wp2
            all_goals go_meet
            all_goals exact ⟨gT, rfl, rfl, rfl, hG9.out⟩
          · refine k_one (fun K' u => ∃ v3, u = .agg (bks y v3) ∧ K' = fun W => RwsO W O v1 A ∧ RwsO W O v2 E ∧ RwsO W O v3 E ∧ W.heap[g9]? = some (.cells (bk2 y v1 y v2) 28 (0, 0))) (by apply opN; repeat' (first | apply OpAt.z | apply OpAt.s)) (by rfl) (by rfl) (by rfl) (fun W hCW hK => ?_) ?_
            · refine op_x2 rfl rfl rfl rfl cf_makeq ?_
              refine (hMy.out W (h3.out W hCW).1.bel).mono ?_
              rintro e W' ⟨v3, rfl, h4, h5⟩
              exact ⟨_, rfl, hCW.trans (h5.mono (hsz.out W hCW)), _, ⟨RwsO.next hK.1 h5, RwsO.next hK.2.1 h5, own_base h4 (hsz.out W hCW), (h5.block _ (Array.getElem?_eq_some_iff.1 hK.2.2).1).trans hK.2.2⟩, v3, rfl, rfl⟩
            rintro _ _ ⟨v3, rfl, rfl⟩
            simp only [Act.put, List.setIfInBounds_toArray, List.set_cons_zero, List.set_cons_succ]
            refine h_fork ?_ ?_
            · refine k_one (fun K' u => ∃ g2, u = .slice (some ⟨g2, 0, none⟩) 2 2 ∧ K' = fun W => RwsO W O v1 A ∧ RwsO W O v2 E ∧ RwsO W O v3 E ∧ W.heap[g2]? = some (.cells (bk2 za vk zb vm) 28 (0, 0)) ∧ W.heap[g9]? = some (.cells (bk2 y v1 y v2) 28 (0, 0))) (by apply opN; repeat' (first | apply OpAt.z | apply OpAt.s)) (by rfl) (by rfl) (by rfl) (fun W hCW hK => ?_) ?_
              · exact xup_val (op_b2 rfl rfl rfl) ⟨alloc_bel hCW (Nat.le_of_eq hOe.out) _, _, ⟨RwsO.next hK.1 (alloc_bel (Below.refl _ _) (Nat.le_refl _) _), RwsO.next hK.2.1 (alloc_bel (Below.refl _ _) (Nat.le_refl _) _), RwsO.next hK.2.2.1 (alloc_bel (Below.refl _ _) (Nat.le_refl _) _), alloc_at1 W _, ((alloc_bel (Below.refl _ _) (Nat.le_refl _) _).block _ (Array.getElem?_eq_some_iff.1 hK.2.2.2).1).trans hK.2.2.2⟩, W.heap.size, rfl, rfl⟩
              rintro _ _ ⟨g2, rfl, rfl⟩
              simp only [Act.put, List.setIfInBounds_toArray, List.set_cons_zero, List.set_cons_succ]
              refine k_step (fun K' u => ∃ g14, u = .slice (some ⟨g14, 0, none⟩) 2 2 ∧ K' = fun W => RwsO W O v1 A ∧ RwsO W O v2 E ∧ RwsO W O v3 E ∧ W.heap[g2]? = some (.cells (bk2 za vk zb vm) 28 (0, 0)) ∧ W.heap[g9]? = some (.cells (bk2 y v1 y v2) 28 (0, 0)) ∧ W.heap[g14]? = some (.cells (bk2 za vk y v3) 28 (0, 0))) (by apply opN; repeat' (first | apply OpAt.z | apply OpAt.s)) (by rfl) (by rfl) (by rfl) (fun W hCW hK => ?_) ?_
              · exact xup_val (op_b2 rfl rfl rfl) ⟨alloc_bel hCW (Nat.le_of_eq hOe.out) _, _, ⟨RwsO.next hK.1 (alloc_bel (Below.refl _ _) (Nat.le_refl _) _), RwsO.next hK.2.1 (alloc_bel (Below.refl _ _) (Nat.le_refl _) _), RwsO.next hK.2.2.1 (alloc_bel (Below.refl _ _) (Nat.le_refl _) _), ((alloc_bel (Below.refl _ _) (Nat.le_refl _) _).block _ (Array.getElem?_eq_some_iff.1 hK.2.2.2.1).1).trans hK.2.2.2.1, ((alloc_bel (Below.refl _ _) (Nat.le_refl _) _).block _ (Array.getElem?_eq_some_iff.1 hK.2.2.2.2).1).trans hK.2.2.2.2, alloc_at1 W _⟩, W.heap.size, rfl, rfl⟩
              rintro _ _ ⟨g14, rfl, rfl⟩
              simp only [Act.put, List.setIfInBounds_toArray, List.set_cons_zero, List.set_cons_succ]
              refine k_step (fun K' u => ∃ gT, u = .slice (some ⟨gT, 0, none⟩) 3 3 ∧ K' = fun W => RwsO W O v1 A ∧ RwsO W O v2 E ∧ RwsO W O v3 E ∧ W.heap[g2]? = some (.cells (bk2 za vk zb vm) 28 (0, 0)) ∧ W.heap[g9]? = some (.cells (bk2 y v1 y v2) 28 (0, 0)) ∧ W.heap[g14]? = some (.cells (bk2 za vk y v3) 28 (0, 0)) ∧ W.heap[gT]? = some (.cells #[.slice (some ⟨g2, 0, none⟩) 2 2, .slice (some ⟨g9, 0, none⟩) 2 2, .slice (some ⟨g14, 0, none⟩) 2 2] 32 (0, 0))) (by apply opN; repeat' (first | apply OpAt.z | apply OpAt.s)) (by rfl) (by rfl) (by rfl) (fun W hCW hK => ?_) ?_
              · exact xup_val (op_b3 rfl rfl rfl rfl) ⟨alloc_bel hCW (Nat.le_of_eq hOe.out) _, _, ⟨RwsO.next hK.1 (alloc_bel (Below.refl _ _) (Nat.le_refl _) _), RwsO.next hK.2.1 (alloc_bel (Below.refl _ _) (Nat.le_refl _) _), RwsO.next hK.2.2.1 (alloc_bel (Below.refl _ _) (Nat.le_refl _) _), ((alloc_bel (Below.refl _ _) (Nat.le_refl _) _).block _ (Array.getElem?_eq_some_iff.1 hK.2.2.2.1).1).trans hK.2.2.2.1, ((alloc_bel (Below.refl _ _) (Nat.le_refl _) _).block _ (Array.getElem?_eq_some_iff.1 hK.2.2.2.2.1).1).trans hK.2.2.2.2.1, ((alloc_bel (Below.refl _ _) (Nat.le_refl _) _).block _ (Array.getElem?_eq_some_iff.1 hK.2.2.2.2.2).1).trans hK.2.2.2.2.2, alloc_at1 W _⟩, W.heap.size, rfl, rfl⟩
              rintro _ _ ⟨gT, rfl, rfl⟩
              simp only [Act.put, List.setIfInBounds_toArray, List.set_cons_zero, List.set_cons_succ]
              refine k_val (.int .i64 3) (by apply opN; repeat' (first | apply OpAt.z | apply OpAt.s)) (by rfl) (by rfl) (fun _ W hS => op_ln3 (n := 3) rfl rfl) ?_
              simp only [Act.put, List.setIfInBounds_toArray, List.set_cons_zero, List.set_cons_succ]
              refine k_nil ?_
              intro W hCW hK
              have hG9 := hide (show (∃ s0 s1 s2 : Nat, W.heap[gT]? = some (.cells #[.slice (some ⟨s0, 0, none⟩) 2 2, .slice (some ⟨s1, 0, none⟩) 2 2, .slice (some ⟨s2, 0, none⟩) 2 2] 32 (0, 0)) ∧ (∃ v1 v2, PrV W s0 za v1 M zb v2 N) ∧ (∃ v1 v2, PrV W s1 y v1 A y v2 E) ∧ ∃ v1 v2, PrV W s2 za v1 M y v2 E) ∧ Below O w3 W from
                ⟨⟨g2, g9, g14, hK.2.2.2.2.2.2, ⟨vk, vm, hK.2.2.2.1, (h3.out W hCW).2.2.1, (h3.out W hCW).2.2.2.2, hMk.out.1, hNk.out.1, hMk.out.2, hNk.out.2⟩, ⟨v1, v2, hK.2.2.2.2.1, RwsO.row hK.1, RwsO.row hK.2.1, hAk.out.1, hEk.out.1, hAk.out.2, hEk.out.2⟩, ⟨vk, v3, hK.2.2.2.2.2.1, (h3.out W hCW).2.2.1, RwsO.row hK.2.2.1, hMk.out.1, hEk.out.1, hMk.out.2, hEk.out.2⟩⟩, hCW⟩)
              clear hCW hK
              go_wp2
              all_goals go_meet
              all_goals exact ⟨gT, rfl, rfl, rfl, hG9.out⟩
            · refine k_one (fun K' u => ∃ g14, u = .slice (some ⟨g14, 0, none⟩) 2 2 ∧ K' = fun W => RwsO W O v1 A ∧ RwsO W O v2 E ∧ RwsO W O v3 E ∧ W.heap[g9]? = some (.cells (bk2 y v1 y v2) 28 (0, 0)) ∧ W.heap[g14]? = some (.cells (bk2 za vk y v3) 28 (0, 0))) (by apply opN; repeat' (first | apply OpAt.z | apply OpAt.s)) (by rfl) (by rfl) (by rfl) (fun W hCW hK => ?_) ?_
              · exact xup_val (op_b2 rfl rfl rfl) ⟨alloc_bel hCW (Nat.le_of_eq hOe.out) _, _, ⟨RwsO.next hK.1 (alloc_bel (Below.refl _ _) (Nat.le_refl _) _), RwsO.next hK.2.1 (alloc_bel (Below.refl _ _) (Nat.le_refl _) _), RwsO.next hK.2.2.1 (alloc_bel (Below.refl _ _) (Nat.le_refl _) _), ((alloc_bel (Below.refl _ _) (Nat.le_refl _) _).block _ (Array.getElem?_eq_some_iff.1 hK.2.2.2).1).trans hK.2.2.2, alloc_at1 W _⟩, W.heap.size, rfl, rfl⟩
              rintro _ _ ⟨g14, rfl, rfl⟩
              simp only [Act.put, List.setIfInBounds_toArray, List.set_cons_zero, List.set_cons_succ]
              refine k_step (fun K' u => ∃ g2, u = .slice (some ⟨g2, 0, none⟩) 2 2 ∧ K' = fun W => RwsO W O v1 A ∧ RwsO W O v2 E ∧ RwsO W O v3 E ∧ W.heap[g2]? = some (.cells (bk2 za vk zb vm) 28 (0, 0)) ∧ W.heap[g9]? = some (.cells (bk2 y v1 y v2) 28 (0, 0)) ∧ W.heap[g14]? = some (.cells (bk2 za vk y v3) 28 (0, 0))) (by apply opN; repeat' (first | apply OpAt.z | apply OpAt.s)) (by rfl) (by rfl) (by rfl) (fun W hCW hK => ?_) ?_
              · exact xup_val (op_b2 rfl rfl rfl) ⟨alloc_bel hCW (Nat.le_of_eq hOe.out) _, _, ⟨RwsO.next hK.1 (alloc_bel (Below.refl _ _) (Nat.le_refl _) _), RwsO.next hK.2.1 (alloc_bel (Below.refl _ _) (Nat.le_refl _) _), RwsO.next hK.2.2.1 (alloc_bel (Below.refl _ _) (Nat.le_refl _) _), alloc_at1 W _, ((alloc_bel (Below.refl _ _) (Nat.le_refl _) _).block _ (Array.getElem?_eq_some_iff.1 hK.2.2.2.1).1).trans hK.2.2.2.1, ((alloc_bel (Below.refl _ _) (Nat.le_refl _) _).block _ (Array.getElem?_eq_some_iff.1 hK.2.2.2.2).1).trans hK.2.2.2.2⟩, W.heap.size, rfl, rfl⟩
              rintro _ _ ⟨g2, rfl, rfl⟩
              simp only [Act.put, List.setIfInBounds_toArray, List.set_cons_zero, List.set_cons_succ]
              refine k_step (fun K' u => ∃ gT, u = .slice (some ⟨gT, 0, none⟩) 3 3 ∧ K' = fun W => RwsO W O v1 A ∧ RwsO W O v2 E ∧ RwsO W O v3 E ∧ W.heap[g2]? = some (.cells (bk2 za vk zb vm) 28 (0, 0)) ∧ W.heap[g9]? = some (.cells (bk2 y v1 y v2) 28 (0, 0)) ∧ W.heap[g14]? = some (.cells (bk2 za vk y v3) 28 (0, 0)) ∧ W.heap[gT]? = some (.cells #[.slice (some ⟨g2, 0, none⟩) 2 2, .slice (some ⟨g9, 0, none⟩) 2 2, .slice (some ⟨g14, 0, none⟩) 2 2] 32 (0, 0))) (by apply opN; repeat' (first | apply OpAt.z | apply OpAt.s)) (by rfl) (by rfl) (by rfl) (fun W hCW hK => ?_) ?_
              · exact xup_val (op_b3 rfl rfl rfl rfl) ⟨alloc_bel hCW (Nat.le_of_eq hOe.out) _, _, ⟨RwsO.next hK.1 (alloc_bel (Below.refl _ _) (Nat.le_refl _) _), RwsO.next hK.2.1 (alloc_bel (Below.refl _ _) (Nat.le_refl _) _), RwsO.next hK.2.2.1 (alloc_bel (Below.refl _ _) (Nat.le_refl _) _), ((alloc_bel (Below.refl _ _) (Nat.le_refl _) _).block _ (Array.getElem?_eq_some_iff.1 hK.2.2.2.1).1).trans hK.2.2.2.1, ((alloc_bel (Below.refl _ _) (Nat.le_refl _) _).block _ (Array.getElem?_eq_some_iff.1 hK.2.2.2.2.1).1).trans hK.2.2.2.2.1, ((alloc_bel (Below.refl _ _) (Nat.le_refl _) _).block _ (Array.getElem?_eq_some_iff.1 hK.2.2.2.2.2).1).trans hK.2.2.2.2.2, alloc_at1 W _⟩, W.heap.size, rfl, rfl⟩
              rintro _ _ ⟨gT, rfl, rfl⟩
              simp only [Act.put, List.setIfInBounds_toArray, List.set_cons_zero, List.set_cons_succ]
              refine k_val (.int .i64 3) (by apply opN; repeat' (first | apply OpAt.z | apply OpAt.s)) (by rfl) (by rfl) (fun _ W hS => op_ln3 (n := 3) rfl rfl) ?_
              simp only [Act.put, List.setIfInBounds_toArray, List.set_cons_zero, List.set_cons_succ]
              refine k_nil ?_
              intro W hCW hK
              have hG9 := hide (show (∃ s0 s1 s2 : Nat, W.heap[gT]? = some (.cells #[.slice (some ⟨s0, 0, none⟩) 2 2, .slice (some ⟨s1, 0, none⟩) 2 2, .slice (some ⟨s2, 0, none⟩) 2 2] 32 (0, 0)) ∧ (∃ v1 v2, PrV W s0 za v1 M zb v2 N) ∧ (∃ v1 v2, PrV W s1 y v1 A y v2 E) ∧ ∃ v1 v2, PrV W s2 za v1 M y v2 E) ∧ Below O w3 W from
                ⟨⟨g2, g9, g14, hK.2.2.2.2.2.2, ⟨vk, vm, hK.2.2.2.1, (h3.out W hCW).2.2.1, (h3.out W hCW).2.2.2.2, hMk.out.1, hNk.out.1, hMk.out.2, hNk.out.2⟩, ⟨v1, v2, hK.2.2.2.2.1, RwsO.row hK.1, RwsO.row hK.2.1, hAk.out.1, hEk.out.1, hAk.out.2, hEk.out.2⟩, ⟨vk, v3, hK.2.2.2.2.2.1, (h3.out W hCW).2.2.1, RwsO.row hK.2.2.1, hMk.out.1, hEk.out.1, hMk.out.2, hEk.out.2⟩⟩, hCW⟩)
              clear hCW hK
              go_wp2
              all_goals go_meet
              all_goals exact ⟨gT, rfl, rfl, rfl, hG9.out⟩
        · refine k_one (fun K' u => ∃ v3, u = .agg (bks y v3) ∧ K' = fun W => RwsO W O v1 A ∧ RwsO W O v2 E ∧ RwsO W O v3 E) (by apply opN; repeat' (first | apply OpAt.z | apply OpAt.s)) (by rfl) (by rfl) (by rfl) (fun W hCW hK => ?_) ?_
          · refine op_x2 rfl rfl rfl rfl cf_makeq ?_
            refine (hMy.out W (h3.out W hCW).1.bel).mono ?_
            rintro e W' ⟨v3, rfl, h4, h5⟩
            exact ⟨_, rfl, hCW.trans (h5.mono (hsz.out W hCW)), _, ⟨RwsO.next hK.1 h5, RwsO.next hK.2 h5, own_base h4 (hsz.out W hCW)⟩, v3, rfl, rfl⟩
          rintro _ _ ⟨v3, rfl, rfl⟩
          simp only [Act.put, List.setIfInBounds_toArray, List.set_cons_zero, List.set_cons_succ]
          refine h_fork3 ?_ ?_ ?_
          · refine k_one (fun K' u => ∃ g2, u = .slice (some ⟨g2, 0, none⟩) 2 2 ∧ K' = fun W => RwsO W O v1 A ∧ RwsO W O v2 E ∧ RwsO W O v3 E ∧ W.heap[g2]? = some (.cells (bk2 za vk zb vm) 28 (0, 0))) (by apply opN; repeat' (first | apply OpAt.z | apply OpAt.s)) (by rfl) (by rfl) (by rfl) (fun W hCW hK => ?_) ?_
            · exact xup_val (op_b2 rfl rfl rfl) ⟨alloc_bel hCW (Nat.le_of_eq hOe.out) _, _, ⟨RwsO.next hK.1 (alloc_bel (Below.refl _ _) (Nat.le_refl _) _), RwsO.next hK.2.1 (alloc_bel (Below.refl _ _) (Nat.le_refl _) _), RwsO.next hK.2.2 (alloc_bel (Below.refl _ _) (Nat.le_refl _) _), alloc_at1 W _⟩, W.heap.size, rfl, rfl⟩
            rintro _ _ ⟨g2, rfl, rfl⟩
            simp only [Act.put, List.setIfInBounds_toArray, List.set_cons_zero, List.set_cons_succ]
            refine h_fork ?_ ?_
            · refine k_one (fun K' u => ∃ g9, u = .slice (some ⟨g9, 0, none⟩) 2 2 ∧ K' = fun W => RwsO W O v1 A ∧ RwsO W O v2 E ∧ RwsO W O v3 E ∧ W.heap[g2]? = some (.cells (bk2 za vk zb vm) 28 (0, 0)) ∧ W.heap[g9]? = some (.cells (bk2 y v1 y v2) 28 (0, 0))) (by apply opN; repeat' (first | apply OpAt.z | apply OpAt.s)) (by rfl) (by rfl) (by rfl) (fun W hCW hK => ?_) ?_
              · exact xup_val (op_b2 rfl rfl rfl) ⟨alloc_bel hCW (Nat.le_of_eq hOe.out) _, _, ⟨RwsO.next hK.1 (alloc_bel (Below.refl _ _) (Nat.le_refl _) _), RwsO.next hK.2.1 (alloc_bel (Below.refl _ _) (Nat.le_refl _) _), RwsO.next hK.2.2.1 (alloc_bel (Below.refl _ _) (Nat.le_refl _) _), ((alloc_bel (Below.refl _ _) (Nat.le_refl _) _).block _ (Array.getElem?_eq_some_iff.1 hK.2.2.2).1).trans hK.2.2.2, alloc_at1 W _⟩, W.heap.size, rfl, rfl⟩
              rintro _ _ ⟨g9, rfl, rfl⟩
              simp only [Act.put, List.setIfInBounds_toArray, List.set_cons_zero, List.set_cons_succ]
              refine k_step (fun K' u => ∃ g14, u = .slice (some ⟨g14, 0, none⟩) 2 2 ∧ K' = fun W => RwsO W O v1 A ∧ RwsO W O v2 E ∧ RwsO W O v3 E ∧ W.heap[g2]? = some (.cells (bk2 za vk zb vm) 28 (0, 0)) ∧ W.heap[g9]? = some (.cells (bk2 y v1 y v2) 28 (0, 0)) ∧ W.heap[g14]? = some (.cells (bk2 za vk y v3) 28 (0, 0))) (by apply opN; repeat' (first | apply OpAt.z | apply OpAt.s)) (by rfl) (by rfl) (by rfl) (fun W hCW hK => ?_) ?_
              · exact xup_val (op_b2 rfl rfl rfl) ⟨alloc_bel hCW (Nat.le_of_eq hOe.out) _, _, ⟨RwsO.next hK.1 (alloc_bel (Below.refl _ _) (Nat.le_refl _) _), RwsO.next hK.2.1 (alloc_bel (Below.refl _ _) (Nat.le_refl _) _), RwsO.next hK.2.2.1 (alloc_bel (Below.refl _ _) (Nat.le_refl _) _), ((alloc_bel (Below.refl _ _) (Nat.le_refl _) _).block _ (Array.getElem?_eq_some_iff.1 hK.2.2.2.1).1).trans hK.2.2.2.1, ((alloc_bel (Below.refl _ _) (Nat.le_refl _) _).block _ (Array.getElem?_eq_some_iff.1 hK.2.2.2.2).1).trans hK.2.2.2.2, alloc_at1 W _⟩, W.heap.size, rfl, rfl⟩
              rintro _ _ ⟨g14, rfl, rfl⟩
              simp only [Act.put, List.setIfInBounds_toArray, List.set_cons_zero, List.set_cons_succ]
              refine k_step (fun K' u => ∃ gT, u = .slice (some ⟨gT, 0, none⟩) 3 3 ∧ K' = fun W => RwsO W O v1 A ∧ RwsO W O v2 E ∧ RwsO W O v3 E ∧ W.heap[g2]? = some (.cells (bk2 za vk zb vm) 28 (0, 0)) ∧ W.heap[g9]? = some (.cells (bk2 y v1 y v2) 28 (0, 0)) ∧ W.heap[g14]? = some (.cells (bk2 za vk y v3) 28 (0, 0)) ∧ W.heap[gT]? = some (.cells #[.slice (some ⟨g2, 0, none⟩) 2 2, .slice (some ⟨g9, 0, none⟩) 2 2, .slice (some ⟨g14, 0, none⟩) 2 2] 32 (0, 0))) (by apply opN; repeat' (first | apply OpAt.z | apply OpAt.s)) (by rfl) (by rfl) (by rfl) (fun W hCW hK => ?_) ?_
              · exact xup_val (op_b3 rfl rfl rfl rfl) ⟨alloc_bel hCW (Nat.le_of_eq hOe.out) _, _, ⟨RwsO.next hK.1 (alloc_bel (Below.refl _ _) (Nat.le_refl _) _), RwsO.next hK.2.1 (alloc_bel (Below.refl _ _) (Nat.le_refl _) _), RwsO.next hK.2.2.1 (alloc_bel (Below.refl _ _) (Nat.le_refl _) _), ((alloc_bel (Below.refl _ _) (Nat.le_refl _) _).block _ (Array.getElem?_eq_some_iff.1 hK.2.2.2.1).1).trans hK.2.2.2.1, ((alloc_bel (Below.refl _ _) (Nat.le_refl _) _).block _ (Array.getElem?_eq_some_iff.1 hK.2.2.2.2.1).1).trans hK.2.2.2.2.1, ((alloc_bel (Below.refl _ _) (Nat.le_refl _) _).block _ (Array.getElem?_eq_some_iff.1 hK.2.2.2.2.2).1).trans hK.2.2.2.2.2, alloc_at1 W _⟩, W.heap.size, rfl, rfl⟩
              rintro _ _ ⟨gT, rfl, rfl⟩
              simp only [Act.put, List.setIfInBounds_toArray, List.set_cons_zero, List.set_cons_succ]
              refine k_val (.int .i64 3) (by apply opN; repeat' (first | apply OpAt.z | apply OpAt.s)) (by rfl) (by rfl) (fun _ W hS => op_ln3 (n := 3) rfl rfl) ?_
              simp only [Act.put, List.setIfInBounds_toArray, List.set_cons_zero, List.set_cons_succ]
              refine k_nil ?_
              intro W hCW hK
              have hG9 := hide (show (∃ s0 s1 s2 : Nat, W.heap[gT]? = some (.cells #[.slice (some ⟨s0, 0, none⟩) 2 2, .slice (some ⟨s1, 0, none⟩) 2 2, .slice (some ⟨s2, 0, none⟩) 2 2] 32 (0, 0)) ∧ (∃ v1 v2, PrV W s0 za v1 M zb v2 N) ∧ (∃ v1 v2, PrV W s1 y v1 A y v2 E) ∧ ∃ v1 v2, PrV W s2 za v1 M y v2 E) ∧ Below O w3 W from
                ⟨⟨g2, g9, g14, hK.2.2.2.2.2.2, ⟨vk, vm, hK.2.2.2.1, (h3.out W hCW).2.2.1, (h3.out W hCW).2.2.2.2, hMk.out.1, hNk.out.1, hMk.out.2, hNk.out.2⟩, ⟨v1, v2, hK.2.2.2.2.1, RwsO.row hK.1, RwsO.row hK.2.1, hAk.out.1, hEk.out.1, hAk.out.2, hEk.out.2⟩, ⟨vk, v3, hK.2.2.2.2.2.1, (h3.out W hCW).2.2.1, RwsO.row hK.2.2.1, hMk.out.1, hEk.out.1, hMk.out.2, hEk.out.2⟩⟩, hCW⟩)
              clear hCW hK
              go_wp2
              all_goals go_meet
              all_goals exact ⟨gT, rfl, rfl, rfl, hG9.out⟩
            · refine k_one (fun K' u => ∃ g14, u = .slice (some ⟨g14, 0, none⟩) 2 2 ∧ K' = fun W => RwsO W O v1 A ∧ RwsO W O v2 E ∧ RwsO W O v3 E ∧ W.heap[g2]? = some (.cells (bk2 za vk zb vm) 28 (0, 0)) ∧ W.heap[g14]? = some (.cells (bk2 za vk y v3) 28 (0, 0))) (by apply opN; repeat' (first | apply OpAt.z | apply OpAt.s)) (by rfl) (by rfl) (by rfl) (fun W hCW hK => ?_) ?_
              · exact xup_val (op_b2 rfl rfl rfl) ⟨alloc_bel hCW (Nat.le_of_eq hOe.out) _, _, ⟨RwsO.next hK.1 (alloc_bel (Below.refl _ _) (Nat.le_refl _) _), RwsO.next hK.2.1 (alloc_bel (Below.refl _ _) (Nat.le_refl _) _), RwsO.next hK.2.2.1 (alloc_bel (Below.refl _ _) (Nat.le_refl _) _), ((alloc_bel (Below.refl _ _) (Nat.le_refl _) _).block _ (Array.getElem?_eq_some_iff.1 hK.2.2.2).1).trans hK.2.2.2, alloc_at1 W _⟩, W.heap.size, rfl, rfl⟩
              rintro _ _ ⟨g14, rfl, rfl⟩
              simp only [Act.put, List.setIfInBounds_toArray, List.set_cons_zero, List.set_cons_succ]
              refine k_step (fun K' u => ∃ g9, u = .slice (some ⟨g9, 0, none⟩) 2 2 ∧ K' = fun W => RwsO W O v1 A ∧ RwsO W O v2 E ∧ RwsO W O v3 E ∧ W.heap[g2]? = some (.cells (bk2 za vk zb vm) 28 (0, 0)) ∧ W.heap[g9]? = some (.cells (bk2 y v1 y v2) 28 (0, 0)) ∧ W.heap[g14]? = some (.cells (bk2 za vk y v3) 28 (0, 0))) (by apply opN; repeat' (first | apply OpAt.z | apply OpAt.s)) (by rfl) (by rfl) (by rfl) (fun W hCW hK => ?_) ?_
              · exact xup_val (op_b2 rfl rfl rfl) ⟨alloc_bel hCW (Nat.le_of_eq hOe.out) _, _, ⟨RwsO.next hK.1 (alloc_bel (Below.refl _ _) (Nat.le_refl _) _), RwsO.next hK.2.1 (alloc_bel (Below.refl _ _) (Nat.le_refl _) _), RwsO.next hK.2.2.1 (alloc_bel (Below.refl _ _) (Nat.le_refl _) _), ((alloc_bel (Below.refl _ _) (Nat.le_refl _) _).block _ (Array.getElem?_eq_some_iff.1 hK.2.2.2.1).1).trans hK.2.2.2.1, alloc_at1 W _, ((alloc_bel (Below.refl _ _) (Nat.le_refl _) _).block _ (Array.getElem?_eq_some_iff.1 hK.2.2.2.2).1).trans hK.2.2.2.2⟩, W.heap.size, rfl, rfl⟩
              rintro _ _ ⟨g9, rfl, rfl⟩
              simp only [Act.put, List.setIfInBounds_toArray, List.set_cons_zero, List.set_cons_succ]
              refine k_step (fun K' u => ∃ gT, u = .slice (some ⟨gT, 0, none⟩) 3 3 ∧ K' = fun W => RwsO W O v1 A ∧ RwsO W O v2 E ∧ RwsO W O v3 E ∧ W.heap[g2]? = some (.cells (bk2 za vk zb vm) 28 (0, 0)) ∧ W.heap[g9]? = some (.cells (bk2 y v1 y v2) 28 (0, 0)) ∧ W.heap[g14]? = some (.cells (bk2 za vk y v3) 28 (0, 0)) ∧ W.heap[gT]? = some (.cells #[.slice (some ⟨g2, 0, none⟩) 2 2, .slice (some ⟨g9, 0, none⟩) 2 2, .slice (some ⟨g14, 0, none⟩) 2 2] 32 (0, 0))) (by apply opN; repeat' (first | apply OpAt.z | apply OpAt.s)) (by rfl) (by rfl) (by rfl) (fun W hCW hK => ?_) ?_
              · exact xup_val (op_b3 rfl rfl rfl rfl) ⟨alloc_bel hCW (Nat.le_of_eq hOe.out) _, _, ⟨RwsO.next hK.1 (alloc_bel (Below.refl _ _) (Nat.le_refl _) _), RwsO.next hK.2.1 (alloc_bel (Below.refl _ _) (Nat.le_refl _) _), RwsO.next hK.2.2.1 (alloc_bel (Below.refl _ _) (Nat.le_refl _) _), ((alloc_bel (Below.refl _ _) (Nat.le_refl _) _).block _ (Array.getElem?_eq_some_iff.1 hK.2.2.2.1).1).trans hK.2.2.2.1, ((alloc_bel (Below.refl _ _) (Nat.le_refl _) _).block _ (Array.getElem?_eq_some_iff.1 hK.2.2.2.2.1).1).trans hK.2.2.2.2.1, ((alloc_bel (Below.refl _ _) (Nat.le_refl _) _).block _ (Array.getElem?_eq_some_iff.1 hK.2.2.2.2.2).1).trans hK.2.2.2.2.2, alloc_at1 W _⟩, W.heap.size, rfl, rfl⟩
              rintro _ _ ⟨gT, rfl, rfl⟩
              simp only [Act.put, List.setIfInBounds_toArray, List.set_cons_zero, List.set_cons_succ]
              refine k_val (.int .i64 3) (by apply opN; repeat' (first | apply OpAt.z | apply OpAt.s)) (by rfl) (by rfl) (fun _ W hS => op_ln3 (n := 3) rfl rfl) ?_
              simp only [Act.put, List.setIfInBounds_toArray, List.set_cons_zero, List.set_cons_succ]
              refine k_nil ?_
              intro W hCW hK
              have hG9 := hide (show (∃ s0 s1 s2 : Nat, W.heap[gT]? = some (.cells #[.slice (some ⟨s0, 0, none⟩) 2 2, .slice (some ⟨s1, 0, none⟩) 2 2, .slice (some ⟨s2, 0, none⟩) 2 2] 32 (0, 0)) ∧ (∃ v1 v2, PrV W s0 za v1 M zb v2 N) ∧ (∃ v1 v2, PrV W s1 y v1 A y v2 E) ∧ ∃ v1 v2, PrV W s2 za v1 M y v2 E) ∧ Below O w3 W from
                ⟨⟨g2, g9, g14, hK.2.2.2.2.2.2, ⟨vk, vm, hK.2.2.2.1, (h3.out W hCW).2.2.1, (h3.out W hCW).2.2.2.2, hMk.out.1, hNk.out.1, hMk.out.2, hNk.out.2⟩, ⟨v1, v2, hK.2.2.2.2.1, RwsO.row hK.1, RwsO.row hK.2.1, hAk.out.1, hEk.out.1, hAk.out.2, hEk.out.2⟩, ⟨vk, v3, hK.2.2.2.2.2.1, (h3.out W hCW).2.2.1, RwsO.row hK.2.2.1, hMk.out.1, hEk.out.1, hMk.out.2, hEk.out.2⟩⟩, hCW⟩)
              clear hCW hK
              go_wp2
              all_goals go_meet
              all_goals exact ⟨gT, rfl, rfl, rfl, hG9.out⟩
          · refine k_one (fun K' u => ∃ g9, u = .slice (some ⟨g9, 0, none⟩) 2 2 ∧ K' = fun W => RwsO W O v1 A ∧ RwsO W O v2 E ∧ RwsO W O v3 E ∧ W.heap[g9]? = some (.cells (bk2 y v1 y v2) 28 (0, 0))) (by apply opN; repeat' (first | apply OpAt.z | apply OpAt.s)) (by rfl) (by rfl) (by rfl) (fun W hCW hK => ?_) ?_
            · exact xup_val (op_b2 rfl rfl rfl) ⟨alloc_bel hCW (Nat.le_of_eq hOe.out) _, _, ⟨RwsO.next hK.1 (alloc_bel (Below.refl _ _) (Nat.le_refl _) _), RwsO.next hK.2.1 (alloc_bel (Below.refl _ _) (Nat.le_refl _) _), RwsO.next hK.2.2 (alloc_bel (Below.refl _ _) (Nat.le_refl _) _), alloc_at1 W _⟩, W.heap.size, rfl, rfl⟩
            rintro _ _ ⟨g9, rfl, rfl⟩
            simp only [Act.put, List.setIfInBounds_toArray, List.set_cons_zero, List.set_cons_succ]
            refine h_fork ?_ ?_
            · refine k_one (fun K' u => ∃ g2, u = .slice (some ⟨g2, 0, none⟩) 2 2 ∧ K' = fun W => RwsO W O v1 A ∧ RwsO W O v2 E ∧ RwsO W O v3 E ∧ W.heap[g2]? = some (.cells (bk2 za vk zb vm) 28 (0, 0)) ∧ W.heap[g9]? = some (.cells (bk2 y v1 y v2) 28 (0, 0))) (by apply opN; repeat' (first | apply OpAt.z | apply OpAt.s)) (by rfl) (by rfl) (by rfl) (fun W hCW hK => ?_) ?_
              · exact xup_val (op_b2 rfl rfl rfl) ⟨alloc_bel hCW (Nat.le_of_eq hOe.out) _, _, ⟨RwsO.next hK.1 (alloc_bel (Below.refl _ _) (Nat.le_refl _) _), RwsO.next hK.2.1 (alloc_bel (Below.refl _ _) (Nat.le_refl _) _), RwsO.next hK.2.2.1 (alloc_bel (Below.refl _ _) (Nat.le_refl _) _), alloc_at1 W _, ((alloc_bel (Below.refl _ _) (Nat.le_refl _) _).block _ (Array.getElem?_eq_some_iff.1 hK.2.2.2).1).trans hK.2.2.2⟩, W.heap.size, rfl, rfl⟩
              rintro _ _ ⟨g2, rfl, rfl⟩
              simp only [Act.put, List.setIfInBounds_toArray, List.set_cons_zero, List.set_cons_succ]
              refine k_step (fun K' u => ∃ g14, u = .slice (some ⟨g14, 0, none⟩) 2 2 ∧ K' = fun W => RwsO W O v1 A ∧ RwsO W O v2 E ∧ RwsO W O v3 E ∧ W.heap[g2]? = some (.cells (bk2 za vk zb vm) 28 (0, 0)) ∧ W.heap[g9]? = some (.cells (bk2 y v1 y v2) 28 (0, 0)) ∧ W.heap[g14]? = some (.cells (bk2 za vk y v3) 28 (0, 0))) (by apply opN; repeat' (first | apply OpAt.z | apply OpAt.s)) (by rfl) (by rfl) (by rfl) (fun W hCW hK => ?_) ?_
              · exact xup_val (op_b2 rfl rfl rfl) ⟨alloc_bel hCW (Nat.le_of_eq hOe.out) _, _, ⟨RwsO.next hK.1 (alloc_bel (Below.refl _ _) (Nat.le_refl _) _), RwsO.next hK.2.1 (alloc_bel (Below.refl _ _) (Nat.le_refl _) _), RwsO.next hK.2.2.1 (alloc_bel (Below.refl _ _) (Nat.le_refl _) _), ((alloc_bel (Below.refl _ _) (Nat.le_refl _) _).block _ (Array.getElem?_eq_some_iff.1 hK.2.2.2.1).1).trans hK.2.2.2.1, ((alloc_bel (Below.refl _ _) (Nat.le_refl _) _).block _ (Array.getElem?_eq_some_iff.1 hK.2.2.2.2).1).trans hK.2.2.2.2, alloc_at1 W _⟩, W.heap.size, rfl, rfl⟩
              rintro _ _ ⟨g14, rfl, rfl⟩
              simp only [Act.put, List.setIfInBounds_toArray, List.set_cons_zero, List.set_cons_succ]
              refine k_step (fun K' u => ∃ gT, u = .slice (some ⟨gT, 0, none⟩) 3 3 ∧ K' = fun W => RwsO W O v1 A ∧ RwsO W O v2 E ∧ RwsO W O v3 E ∧ W.heap[g2]? = some (.cells (bk2 za vk zb vm) 28 (0, 0)) ∧ W.heap[g9]? = some (.cells (bk2 y v1 y v2) 28 (0, 0)) ∧ W.heap[g14]? = some (.cells (bk2 za vk y v3) 28 (0, 0)) ∧ W.heap[gT]? = some (.cells #[.slice (some ⟨g2, 0, none⟩) 2 2, .slice (some ⟨g9, 0, none⟩) 2 2, .slice (some ⟨g14, 0, none⟩) 2 2] 32 (0, 0))) (by apply opN; repeat' (first | apply OpAt.z | apply OpAt.s)) (by rfl) (by rfl) (by rfl) (fun W hCW hK => ?_) ?_
              · exact xup_val (op_b3 rfl rfl rfl rfl) ⟨alloc_bel hCW (Nat.le_of_eq hOe.out) _, _, ⟨RwsO.next hK.1 (alloc_bel (Below.refl _ _) (Nat.le_refl _) _), RwsO.next hK.2.1 (alloc_bel (Below.refl _ _) (Nat.le_refl _) _), RwsO.next hK.2.2.1 (alloc_bel (Below.refl _ _) (Nat.le_refl _) _), ((alloc_bel (Below.refl _ _) (Nat.le_refl _) _).block _ (Array.getElem?_eq_some_iff.1 hK.2.2.2.1).1).trans hK.2.2.2.1, ((alloc_bel (Below.refl _ _) (Nat.le_refl _) _).block _ (Array.getElem?_eq_some_iff.1 hK.2.2.2.2.1).1).trans hK.2.2.2.2.1, ((alloc_bel (Below.refl _ _) (Nat.le_refl _) _).block _ (Array.getElem?_eq_some_iff.1 hK.2.2.2.2.2).1).trans hK.2.2.2.2.2, alloc_at1 W _⟩, W.heap.size, rfl, rfl⟩
              rintro _ _ ⟨gT, rfl, rfl⟩
              simp only [Act.put, List.setIfInBounds_toArray, List.set_cons_zero, List.set_cons_succ]
              refine k_val (.int .i64 3) (by apply opN; repeat' (first | apply OpAt.z | apply OpAt.s)) (by rfl) (by rfl) (fun _ W hS => op_ln3 (n := 3) rfl rfl) ?_
              simp only [Act.put, List.setIfInBounds_toArray, List.set_cons_zero, List.set_cons_succ]
              refine k_nil ?_
              intro W hCW hK
              have hG9 := hide (show (∃ s0 s1 s2 : Nat, W.heap[gT]? = some (.cells #[.slice (some ⟨s0, 0, none⟩) 2 2, .slice (some ⟨s1, 0, none⟩) 2 2, .slice (some ⟨s2, 0, none⟩) 2 2] 32 (0, 0)) ∧ (∃ v1 v2, PrV W s0 za v1 M zb v2 N) ∧ (∃ v1 v2, PrV W s1 y v1 A y v2 E) ∧ ∃ v1 v2, PrV W s2 za v1 M y v2 E) ∧ Below O w3 W from
                ⟨⟨g2, g9, g14, hK.2.2.2.2.2.2, ⟨vk, vm, hK.2.2.2.1, (h3.out W hCW).2.2.1, (h3.out W hCW).2.2.2.2, hMk.out.1, hNk.out.1, hMk.out.2, hNk.out.2⟩, ⟨v1, v2, hK.2.2.2.2.1, RwsO.row hK.1, RwsO.row hK.2.1, hAk.out.1, hEk.out.1, hAk.out.2, hEk.out.2⟩, ⟨vk, v3, hK.2.2.2.2.2.1, (h3.out W hCW).2.2.1, RwsO.row hK.2.2.1, hMk.out.1, hEk.out.1, hMk.out.2, hEk.out.2⟩⟩, hCW⟩)
              clear hCW hK
              go_wp2
              all_goals go_meet
              all_goals exact ⟨gT, rfl, rfl, rfl, hG9.out⟩
            · refine k_one (fun K' u => ∃ g14, u = .slice (some ⟨g14, 0, none⟩) 2 2 ∧ K' = fun W => RwsO W O v1 A ∧ RwsO W O v2 E ∧ RwsO W O v3 E ∧ W.heap[g9]? = some (.cells (bk2 y v1 y v2) 28 (0, 0)) ∧ W.heap[g14]? = some (.cells (bk2 za vk y v3) 28 (0, 0))) (by apply opN; repeat' (first | apply OpAt.z | apply OpAt.s)) (by rfl) (by rfl) (by rfl) (fun W hCW hK => ?_) ?_
              · exact xup_val (op_b2 rfl rfl rfl) ⟨alloc_bel hCW (Nat.le_of_eq hOe.out) _, _, ⟨RwsO.next hK.1 (alloc_bel (Below.refl _ _) (Nat.le_refl _) _), RwsO.next hK.2.1 (alloc_bel (Below.refl _ _) (Nat.le_refl _) _), RwsO.next hK.2.2.1 (alloc_bel (Below.refl _ _) (Nat.le_refl _) _), ((alloc_bel (Below.refl _ _) (Nat.le_refl _) _).block _ (Array.getElem?_eq_some_iff.1 hK.2.2.2).1).trans hK.2.2.2, alloc_at1 W _⟩, W.heap.size, rfl, rfl⟩
              rintro _ _ ⟨g14, rfl, rfl⟩
              simp only [Act.put, List.setIfInBounds_toArray, List.set_cons_zero, List.set_cons_succ]
              refine k_step (fun K' u => ∃ g2, u = .slice (some ⟨g2, 0, none⟩) 2 2 ∧ K' = fun W => RwsO W O v1 A ∧ RwsO W O v2 E ∧ RwsO W O v3 E ∧ W.heap[g2]? = some (.cells (bk2 za vk zb vm) 28 (0, 0)) ∧ W.heap[g9]? = some (.cells (bk2 y v1 y v2) 28 (0, 0)) ∧ W.heap[g14]? = some (.cells (bk2 za vk y v3) 28 (0, 0))) (by apply opN; repeat' (first | apply OpAt.z | apply OpAt.s)) (by rfl) (by rfl) (by rfl) (fun W hCW hK => ?_) ?_
              · exact xup_val (op_b2 rfl rfl rfl) ⟨alloc_bel hCW (Nat.le_of_eq hOe.out) _, _, ⟨RwsO.next hK.1 (alloc_bel (Below.refl _ _) (Nat.le_refl _) _), RwsO.next hK.2.1 (alloc_bel (Below.refl _ _) (Nat.le_refl _) _), RwsO.next hK.2.2.1 (alloc_bel (Below.refl _ _) (Nat.le_refl _) _), alloc_at1 W _, ((alloc_bel (Below.refl _ _) (Nat.le_refl _) _).block _ (Array.getElem?_eq_some_iff.1 hK.2.2.2.1).1).trans hK.2.2.2.1, ((alloc_bel (Below.refl _ _) (Nat.le_refl _) _).block _ (Array.getElem?_eq_some_iff.1 hK.2.2.2.2).1).trans hK.2.2.2.2⟩, W.heap.size, rfl, rfl⟩
              rintro _ _ ⟨g2, rfl, rfl⟩
              simp only [Act.put, List.setIfInBounds_toArray, List.set_cons_zero, List.set_cons_succ]
              refine k_step (fun K' u => ∃ gT, u = .slice (some ⟨gT, 0, none⟩) 3 3 ∧ K' = fun W => RwsO W O v1 A ∧ RwsO W O v2 E ∧ RwsO W O v3 E ∧ W.heap[g2]? = some (.cells (bk2 za vk zb vm) 28 (0, 0)) ∧ W.heap[g9]? = some (.cells (bk2 y v1 y v2) 28 (0, 0)) ∧ W.heap[g14]? = some (.cells (bk2 za vk y v3) 28 (0, 0)) ∧ W.heap[gT]? = some (.cells #[.slice (some ⟨g2, 0, none⟩) 2 2, .slice (some ⟨g9, 0, none⟩) 2 2, .slice (some ⟨g14, 0, none⟩) 2 2] 32 (0, 0))) (by apply opN; repeat' (first | apply OpAt.z | apply OpAt.s)) (by rfl) (by rfl) (by rfl) (fun W hCW hK => ?_) ?_
              · exact xup_val (op_b3 rfl rfl rfl rfl) ⟨alloc_bel hCW (Nat.le_of_eq hOe.out) _, _, ⟨RwsO.next hK.1 (alloc_bel (Below.refl _ _) (Nat.le_refl _) _), RwsO.next hK.2.1 (alloc_bel (Below.refl _ _) (Nat.le_refl _) _), RwsO.next hK.2.2.1 (alloc_bel (Below.refl _ _) (Nat.le_refl _) _), ((alloc_bel (Below.refl _ _) (Nat.le_refl _) _).block _ (Array.getElem?_eq_some_iff.1 hK.2.2.2.1).1).trans hK.2.2.2.1, ((alloc_bel (Below.refl _ _) (Nat.le_refl _) _).block _ (Array.getElem?_eq_some_iff.1 hK.2.2.2.2.1).1).trans hK.2.2.2.2.1, ((alloc_bel (Below.refl _ _) (Nat.le_refl _) _).block _ (Array.getElem?_eq_some_iff.1 hK.2.2.2.2.2).1).trans hK.2.2.2.2.2, alloc_at1 W _⟩, W.heap.size, rfl, rfl⟩
              rintro _ _ ⟨gT, rfl, rfl⟩
              simp only [Act.put, List.setIfInBounds_toArray, List.set_cons_zero, List.set_cons_succ]
              refine k_val (.int .i64 3) (by apply opN; repeat' (first | apply OpAt.z | apply OpAt.s)) (by rfl) (by rfl) (fun _ W hS => op_ln3 (n := 3) rfl rfl) ?_
              simp only [Act.put, List.setIfInBounds_toArray, List.set_cons_zero, List.set_cons_succ]
              refine k_nil ?_
              intro W hCW hK
              have hG9 := hide (show (∃ s0 s1 s2 : Nat, W.heap[gT]? = some (.cells #[.slice (some ⟨s0, 0, none⟩) 2 2, .slice (some ⟨s1, 0, none⟩) 2 2, .slice (some ⟨s2, 0, none⟩) 2 2] 32 (0, 0)) ∧ (∃ v1 v2, PrV W s0 za v1 M zb v2 N) ∧ (∃ v1 v2, PrV W s1 y v1 A y v2 E) ∧ ∃ v1 v2, PrV W s2 za v1 M y v2 E) ∧ Below O w3 W from
                ⟨⟨g2, g9, g14, hK.2.2.2.2.2.2, ⟨vk, vm, hK.2.2.2.1, (h3.out W hCW).2.2.1, (h3.out W hCW).2.2.2.2, hMk.out.1, hNk.out.1, hMk.out.2, hNk.out.2⟩, ⟨v1, v2, hK.2.2.2.2.1, RwsO.row hK.1, RwsO.row hK.2.1, hAk.out.1, hEk.out.1, hAk.out.2, hEk.out.2⟩, ⟨vk, v3, hK.2.2.2.2.2.1, (h3.out W hCW).2.2.1, RwsO.row hK.2.2.1, hMk.out.1, hEk.out.1, hMk.out.2, hEk.out.2⟩⟩, hCW⟩)
              clear hCW hK
              go_wp2
              all_goals go_meet
              all_goals exact ⟨gT, rfl, rfl, rfl, hG9.out⟩
          · refine k_one (fun K' u => ∃ g14, u = .slice (some ⟨g14, 0, none⟩) 2 2 ∧ K' = fun W => RwsO W O v1 A ∧ RwsO W O v2 E ∧ RwsO W O v3 E ∧ W.heap[g14]? = some (.cells (bk2 za vk y v3) 28 (0, 0))) (by apply opN; repeat' (first | apply OpAt.z | apply OpAt.s)) (by rfl) (by rfl) (by rfl) (fun W hCW hK => ?_) ?_
            · exact xup_val (op_b2 rfl rfl rfl) ⟨alloc_bel hCW (Nat.le_of_eq hOe.out) _, _, ⟨RwsO.next hK.1 (alloc_bel (Below.refl _ _) (Nat.le_refl _) _), RwsO.next hK.2.1 (alloc_bel (Below.refl _ _) (Nat.le_refl _) _), RwsO.next hK.2.2 (alloc_bel (Below.refl _ _) (Nat.le_refl _) _), alloc_at1 W _⟩, W.heap.size, rfl, rfl⟩
            rintro _ _ ⟨g14, rfl, rfl⟩
            simp only [Act.put, List.setIfInBounds_toArray, List.set_cons_zero, List.set_cons_succ]
            refine h_fork ?_ ?_
            · refine k_one (fun K' u => ∃ g2, u = .slice (some ⟨g2, 0, none⟩) 2 2 ∧ K' = fun W => RwsO W O v1 A ∧ RwsO W O v2 E ∧ RwsO W O v3 E ∧ W.heap[g2]? = some (.cells (bk2 za vk zb vm) 28 (0, 0)) ∧ W.heap[g14]? = some (.cells (bk2 za vk y v3) 28 (0, 0))) (by apply opN; repeat' (first | apply OpAt.z | apply OpAt.s)) (by rfl) (by rfl) (by rfl) (fun W hCW hK => ?_) ?_
              · exact xup_val (op_b2 rfl rfl rfl) ⟨alloc_bel hCW (Nat.le_of_eq hOe.out) _, _, ⟨RwsO.next hK.1 (alloc_bel (Below.refl _ _) (Nat.le_refl _) _), RwsO.next hK.2.1 (alloc_bel (Below.refl _ _) (Nat.le_refl _) _), RwsO.next hK.2.2.1 (alloc_bel (Below.refl _ _) (Nat.le_refl _) _), alloc_at1 W _, ((alloc_bel (Below.refl _ _) (Nat.le_refl _) _).block _ (Array.getElem?_eq_some_iff.1 hK.2.2.2).1).trans hK.2.2.2⟩, W.heap.size, rfl, rfl⟩
              rintro _ _ ⟨g2, rfl, rfl⟩
              simp only [Act.put, List.setIfInBounds_toArray, List.set_cons_zero, List.set_cons_succ]
              refine k_step (fun K' u => ∃ g9, u = .slice (some ⟨g9, 0, none⟩) 2 2 ∧ K' = fun W => RwsO W O v1 A ∧ RwsO W O v2 E ∧ RwsO W O v3 E ∧ W.heap[g2]? = some (.cells (bk2 za vk zb vm) 28 (0, 0)) ∧ W.heap[g9]? = some (.cells (bk2 y v1 y v2) 28 (0, 0)) ∧ W.heap[g14]? = some (.cells (bk2 za vk y v3) 28 (0, 0))) (by apply opN; repeat' (first | apply OpAt.z | apply OpAt.s)) (by rfl) (by rfl) (by rfl) (fun W hCW hK => ?_) ?_
              · exact xup_val (op_b2 rfl rfl rfl) ⟨alloc_bel hCW (Nat.le_of_eq hOe.out) _, _, ⟨RwsO.next hK.1 (alloc_bel (Below.refl _ _) (Nat.le_refl _) _), RwsO.next hK.2.1 (alloc_bel (Below.refl _ _) (Nat.le_refl _) _), RwsO.next hK.2.2.1 (alloc_bel (Below.refl _ _) (Nat.le_refl _) _), ((alloc_bel (Below.refl _ _) (Nat.le_refl _) _).block _ (Array.getElem?_eq_some_iff.1 hK.2.2.2.1).1).trans hK.2.2.2.1, alloc_at1 W _, ((alloc_bel (Below.refl _ _) (Nat.le_refl _) _).block _ (Array.getElem?_eq_some_iff.1 hK.2.2.2.2).1).trans hK.2.2.2.2⟩, W.heap.size, rfl, rfl⟩
              rintro _ _ ⟨g9, rfl, rfl⟩
              simp only [Act.put, List.setIfInBounds_toArray, List.set_cons_zero, List.set_cons_succ]
              refine k_step (fun K' u => ∃ gT, u = .slice (some ⟨gT, 0, none⟩) 3 3 ∧ K' = fun W => RwsO W O v1 A ∧ RwsO W O v2 E ∧ RwsO W O v3 E ∧ W.heap[g2]? = some (.cells (bk2 za vk zb vm) 28 (0, 0)) ∧ W.heap[g9]? = some (.cells (bk2 y v1 y v2) 28 (0, 0)) ∧ W.heap[g14]? = some (.cells (bk2 za vk y v3) 28 (0, 0)) ∧ W.heap[gT]? = some (.cells #[.slice (some ⟨g2, 0, none⟩) 2 2, .slice (some ⟨g9, 0, none⟩) 2 2, .slice (some ⟨g14, 0, none⟩) 2 2] 32 (0, 0))) (by apply opN; repeat' (first | apply OpAt.z | apply OpAt.s)) (by rfl) (by rfl) (by rfl) (fun W hCW hK => ?_) ?_
              · exact xup_val (op_b3 rfl rfl rfl rfl) ⟨alloc_bel hCW (Nat.le_of_eq hOe.out) _, _, ⟨RwsO.next hK.1 (alloc_bel (Below.refl _ _) (Nat.le_refl _) _), RwsO.next hK.2.1 (alloc_bel (Below.refl _ _) (Nat.le_refl _) _), RwsO.next hK.2.2.1 (alloc_bel (Below.refl _ _) (Nat.le_refl _) _), ((alloc_bel (Below.refl _ _) (Nat.le_refl _) _).block _ (Array.getElem?_eq_some_iff.1 hK.2.2.2.1).1).trans hK.2.2.2.1, ((alloc_bel (Below.refl _ _) (Nat.le_refl _) _).block _ (Array.getElem?_eq_some_iff.1 hK.2.2.2.2.1).1).trans hK.2.2.2.2.1, ((alloc_bel (Below.refl _ _) (Nat.le_refl _) _).block _ (Array.getElem?_eq_some_iff.1 hK.2.2.2.2.2).1).trans hK.2.2.2.2.2, alloc_at1 W _⟩, W.heap.size, rfl, rfl⟩
              rintro _ _ ⟨gT, rfl, rfl⟩
              simp only [Act.put, List.setIfInBounds_toArray, List.set_cons_zero, List.set_cons_succ]
              refine k_val (.int .i64 3) (by apply opN; repeat' (first | apply OpAt.z | apply OpAt.s)) (by rfl) (by rfl) (fun _ W hS => op_ln3 (n := 3) rfl rfl) ?_
              simp only [Act.put, List.setIfInBounds_toArray, List.set_cons_zero, List.set_cons_succ]
              refine k_nil ?_
              intro W hCW hK
              have hG9 := hide (show (∃ s0 s1 s2 : Nat, W.heap[gT]? = some (.cells #[.slice (some ⟨s0, 0, none⟩) 2 2, .slice (some ⟨s1, 0, none⟩) 2 2, .slice (some ⟨s2, 0, none⟩) 2 2] 32 (0, 0)) ∧ (∃ v1 v2, PrV W s0 za v1 M zb v2 N) ∧ (∃ v1 v2, PrV W s1 y v1 A y v2 E) ∧ ∃ v1 v2, PrV W s2 za v1 M y v2 E) ∧ Below O w3 W from
                ⟨⟨g2, g9, g14, hK.2.2.2.2.2.2, ⟨vk, vm, hK.2.2.2.1, (h3.out W hCW).2.2.1, (h3.out W hCW).2.2.2.2, hMk.out.1, hNk.out.1, hMk.out.2, hNk.out.2⟩, ⟨v1, v2, hK.2.2.2.2.1, RwsO.row hK.1, RwsO.row hK.2.1, hAk.out.1, hEk.out.1, hAk.out.2, hEk.out.2⟩, ⟨vk, v3, hK.2.2.2.2.2.1, (h3.out W hCW).2.2.1, RwsO.row hK.2.2.1, hMk.out.1, hEk.out.1, hMk.out.2, hEk.out.2⟩⟩, hCW⟩)
              clear hCW hK
              go_wp2
              all_goals go_meet
              all_goals exact ⟨gT, rfl, rfl, rfl, hG9.out⟩
            · refine k_one (fun K' u => ∃ g9, u = .slice (some ⟨g9, 0, none⟩) 2 2 ∧ K' = fun W => RwsO W O v1 A ∧ RwsO W O v2 E ∧ RwsO W O v3 E ∧ W.heap[g9]? = some (.cells (bk2 y v1 y v2) 28 (0, 0)) ∧ W.heap[g14]? = some (.cells (bk2 za vk y v3) 28 (0, 0))) (by apply opN; repeat' (first | apply OpAt.z | apply OpAt.s)) (by rfl) (by rfl) (by rfl) (fun W hCW hK => ?_) ?_
              · exact xup_val (op_b2 rfl rfl rfl) ⟨alloc_bel hCW (Nat.le_of_eq hOe.out) _, _, ⟨RwsO.next hK.1 (alloc_bel (Below.refl _ _) (Nat.le_refl _) _), RwsO.next hK.2.1 (alloc_bel (Below.refl _ _) (Nat.le_refl _) _), RwsO.next hK.2.2.1 (alloc_bel (Below.refl _ _) (Nat.le_refl _) _), alloc_at1 W _, ((alloc_bel (Below.refl _ _) (Nat.le_refl _) _).block _ (Array.getElem?_eq_some_iff.1 hK.2.2.2).1).trans hK.2.2.2⟩, W.heap.size, rfl, rfl⟩
              rintro _ _ ⟨g9, rfl, rfl⟩
              simp only [Act.put, List.setIfInBounds_toArray, List.set_cons_zero, List.set_cons_succ]
              refine k_step (fun K' u => ∃ g2, u = .slice (some ⟨g2, 0, none⟩) 2 2 ∧ K' = fun W => RwsO W O v1 A ∧ RwsO W O v2 E ∧ RwsO W O v3 E ∧ W.heap[g2]? = some (.cells (bk2 za vk zb vm) 28 (0, 0)) ∧ W.heap[g9]? = some (.cells (bk2 y v1 y v2) 28 (0, 0)) ∧ W.heap[g14]? = some (.cells (bk2 za vk y v3) 28 (0, 0))) (by apply opN; repeat' (first | apply OpAt.z | apply OpAt.s)) (by rfl) (by rfl) (by rfl) (fun W hCW hK => ?_) ?_
              · exact xup_val (op_b2 rfl rfl rfl) ⟨alloc_bel hCW (Nat.le_of_eq hOe.out) _, _, ⟨RwsO.next hK.1 (alloc_bel (Below.refl _ _) (Nat.le_refl _) _), RwsO.next hK.2.1 (alloc_bel (Below.refl _ _) (Nat.le_refl _) _), RwsO.next hK.2.2.1 (alloc_bel (Below.refl _ _) (Nat.le_refl _) _), alloc_at1 W _, ((alloc_bel (Below.refl _ _) (Nat.le_refl _) _).block _ (Array.getElem?_eq_some_iff.1 hK.2.2.2.1).1).trans hK.2.2.2.1, ((alloc_bel (Below.refl _ _) (Nat.le_refl _) _).block _ (Array.getElem?_eq_some_iff.1 hK.2.2.2.2).1).trans hK.2.2.2.2⟩, W.heap.size, rfl, rfl⟩
              rintro _ _ ⟨g2, rfl, rfl⟩
              simp only [Act.put, List.setIfInBounds_toArray, List.set_cons_zero, List.set_cons_succ]
              refine k_step (fun K' u => ∃ gT, u = .slice (some ⟨gT, 0, none⟩) 3 3 ∧ K' = fun W => RwsO W O v1 A ∧ RwsO W O v2 E ∧ RwsO W O v3 E ∧ W.heap[g2]? = some (.cells (bk2 za vk zb vm) 28 (0, 0)) ∧ W.heap[g9]? = some (.cells (bk2 y v1 y v2) 28 (0, 0)) ∧ W.heap[g14]? = some (.cells (bk2 za vk y v3) 28 (0, 0)) ∧ W.heap[gT]? = some (.cells #[.slice (some ⟨g2, 0, none⟩) 2 2, .slice (some ⟨g9, 0, none⟩) 2 2, .slice (some ⟨g14, 0, none⟩) 2 2] 32 (0, 0))) (by apply opN; repeat' (first | apply OpAt.z | apply OpAt.s)) (by rfl) (by rfl) (by rfl) (fun W hCW hK => ?_) ?_
              · exact xup_val (op_b3 rfl rfl rfl rfl) ⟨alloc_bel hCW (Nat.le_of_eq hOe.out) _, _, ⟨RwsO.next hK.1 (alloc_bel (Below.refl _ _) (Nat.le_refl _) _), RwsO.next hK.2.1 (alloc_bel (Below.refl _ _) (Nat.le_refl _) _), RwsO.next hK.2.2.1 (alloc_bel (Below.refl _ _) (Nat.le_refl _) _), ((alloc_bel (Below.refl _ _) (Nat.le_refl _) _).block _ (Array.getElem?_eq_some_iff.1 hK.2.2.2.1).1).trans hK.2.2.2.1, ((alloc_bel (Below.refl _ _) (Nat.le_refl _) _).block _ (Array.getElem?_eq_some_iff.1 hK.2.2.2.2.1).1).trans hK.2.2.2.2.1, ((alloc_bel (Below.refl _ _) (Nat.le_refl _) _).block _ (Array.getElem?_eq_some_iff.1 hK.2.2.2.2.2).1).trans hK.2.2.2.2.2, alloc_at1 W _⟩, W.heap.size, rfl, rfl⟩
              rintro _ _ ⟨gT, rfl, rfl⟩
              simp only [Act.put, List.setIfInBounds_toArray, List.set_cons_zero, List.set_cons_succ]
              refine k_val (.int .i64 3) (by apply opN; repeat' (first | apply OpAt.z | apply OpAt.s)) (by rfl) (by rfl) (fun _ W hS => op_ln3 (n := 3) rfl rfl) ?_
              simp only [Act.put, List.setIfInBounds_toArray, List.set_cons_zero, List.set_cons_succ]
              refine k_nil ?_
              intro W hCW hK
              have hG9 := hide (show (∃ s0 s1 s2 : Nat, W.heap[gT]? = some (.cells #[.slice (some ⟨s0, 0, none⟩) 2 2, .slice (some ⟨s1, 0, none⟩) 2 2, .slice (some ⟨s2, 0, none⟩) 2 2] 32 (0, 0)) ∧ (∃ v1 v2, PrV W s0 za v1 M zb v2 N) ∧ (∃ v1 v2, PrV W s1 y v1 A y v2 E) ∧ ∃ v1 v2, PrV W s2 za v1 M y v2 E) ∧ Below O w3 W from
                ⟨⟨g2, g9, g14, hK.2.2.2.2.2.2, ⟨vk, vm, hK.2.2.2.1, (h3.out W hCW).2.2.1, (h3.out W hCW).2.2.2.2, hMk.out.1, hNk.out.1, hMk.out.2, hNk.out.2⟩, ⟨v1, v2, hK.2.2.2.2.1, RwsO.row hK.1, RwsO.row hK.2.1, hAk.out.1, hEk.out.1, hAk.out.2, hEk.out.2⟩, ⟨vk, v3, hK.2.2.2.2.2.1, (h3.out W hCW).2.2.1, RwsO.row hK.2.2.1, hMk.out.1, hEk.out.1, hMk.out.2, hEk.out.2⟩⟩, hCW⟩)
              clear hCW hK
              go_wp2
              all_goals go_meet
              all_goals exact ⟨gT, rfl, rfl, rfl, hG9.out⟩
  case rest =>
  obtain ⟨gT, rfl, rfl, rfl, ⟨s0, s1, s2, hgT, ⟨p1, p2, hp⟩, ⟨q1, q2, hq⟩, r1, r2, hr⟩, hBT⟩ := hcut
  obtain ⟨w4, hw4⟩ : ∃ x, x = wc := ⟨_, rfl⟩
  subst hw4
  have hBw := hide ((h3.out w4 hBT).1.bel)
  have hPr := hide (fun (j : Nat) (hj : j < 3) => (show ∃ s z1 v1 l1 z2 v2 l2, ∀ W, Below w4.heap.size w4 W → W.cell? ⟨gT, j, none⟩ = some (.slice (some ⟨s, 0, none⟩) 2 2) ∧ PrV W s z1 v1 l1 z2 v2 l2 from by
    rcases j with _ | _ | _ | j
    · exact ⟨_, _, _, _, _, _, _, fun W hW => ⟨cellAt ((hW.block _ (Array.getElem?_eq_some_iff.1 hgT).1).trans hgT) 0, hp.next hW⟩⟩
    · exact ⟨_, _, _, _, _, _, _, fun W hW => ⟨cellAt ((hW.block _ (Array.getElem?_eq_some_iff.1 hgT).1).trans hgT) 1, hq.next hW⟩⟩
    · exact ⟨_, _, _, _, _, _, _, fun W hW => ⟨cellAt ((hW.block _ (Array.getElem?_eq_some_iff.1 hgT).1).trans hgT) 2, hr.next hW⟩⟩
    · omega))
  clear hgT hp hq hr hBT h3 hsz hOe hMx hMy hAk hEk hMk hNk
  go_wp2
  go_loopw [51] (fun i wr => ∃ (j : Nat), i = .int .i64 j ∧ j ≤ 3 ∧ Hid (Below w4.heap.size w4 wr)) (fun i _ => 3 - (intOf i).toNat)
  case atStart => exact ⟨0, rfl, Nat.zero_le _, Below.refl _ _⟩
  case round =>
    obtain ⟨j, rfl, hj, hQ0⟩ := hrel
    obtain ⟨wo, hwo⟩ : ∃ wo, wo = wr := ⟨_, rfl⟩
    subst hwo
    have hBo := hide hQ0.out
    clear hQ0
    by_cases hj3 : j < 3
    · obtain ⟨s, z1, v1, l1, z2, v2, l2, hall'⟩ := hPr.out j hj3
      have hall := hide hall'
      have hcs := (hall' wo hBo.out).1
      clear hall'
      have hjH := hide hj3
      go_wp2_with (go_at_call 11; refine (hP.out _).mono ?_; rintro e w' ⟨rfl, rfl⟩)
      obtain ⟨gI, hgI⟩ : ∃ g, g = wo.heap.size := ⟨_, rfl⟩
      have hI := hide (show (wo.alloc (.cells #[.int .i64 hd, .int .i64 (1 + p)] 3)).heap[gI]? = some (.cells #[.int .i64 hd, .int .i64 (1 + p)] 3 (0, 0)) ∧ Below w4.heap.size w4 (wo.alloc (.cells #[.int .i64 hd, .int .i64 (1 + p)] 3)) from ⟨newAt hgI, alloc_bel hBo.out (Nat.le_refl _) _⟩)
      rw [← hgI]
      clear hgI hcs
      go_loopw [61] (fun i wr => ∃ (q : Nat), i = .int .i64 q ∧ q ≤ 2 ∧ Hid (wr.heap[gI]? = some (.cells #[.int .i64 hd, .int .i64 (1 + p)] 3 (0, 0)) ∧ Below w4.heap.size w4 wr)) (fun i _ => 2 - (intOf i).toNat)
      case atStart => exact ⟨0, rfl, Nat.zero_le _, hI.out⟩
      case round =>
        obtain ⟨q, rfl, hq, hQ1⟩ := hrel
        obtain ⟨wi, hwi⟩ : ∃ wi, wi = wr := ⟨_, rfl⟩
        subst hwi
        have hI2 := hide hQ1.out
        clear hQ1 hI
        have hQ := hide (fun W (hW : Below wi.heap.size wi W) => (show W.heap[gI]? = some (.cells #[.int .i64 hd, .int .i64 (1 + p)] 3 (0, 0)) ∧ PrV W s z1 v1 l1 z2 v2 l2 from ⟨(hW.block _ (Array.getElem?_eq_some_iff.1 hI2.out.1).1).trans hI2.out.1, (hall.out W (hI2.out.2.trans (hW.mono hI2.out.2.size))).2⟩))
        have hPs := hide ((hQ.out wi (Below.refl _ _)).2)
        by_cases hq2 : q < 2
        · obtain ⟨h, hch⟩ : ∃ h, wi.cell? ⟨gI, q, none⟩ = some (.int .i64 h) := by
            rcases q with _ | _ | q
            · exact ⟨_, cellAt hI2.out.1 0⟩
            · exact ⟨_, cellAt hI2.out.1 1⟩
            · omega
          obtain ⟨L, hL'⟩ : ∃ L, L = RW.lns l1 l2 h := ⟨_, rfl⟩
          have hL := hide hL'
          have hLl := hide (show L.length ≤ 100 by have h1 := RW.lns_len l1 l2 h; have h2 := hPs.out.s1; have h3 := hPs.out.s2; rw [hL']; omega)
          clear hL'
          go_upto_region 10 with fail
          clear hch
          go_cut [20] (fun s' wx => ∃ g v4, s' = .pointer (some ⟨g, 0, none⟩) ∧ wx.heap[g]? = some (.cells #[.int .i64 h, .int .i64 z2, v4] 39 (0, 0)) ∧ LnsV wx v4 L ∧ Below wi.heap.size wi wx)
          case first =>
            refine wp_region_k (fun _ W => Below wi.heap.size wi W) (fun _ => True) [7, 8, 9] (.op 0 (.op 1 (.op 2 (.op 3 (.op 4 (.op 5 (.op 6 (.fork 7 (.op 8 (.op 9 .nil)) 8 (.op 7 (.op 9 .nil)))))))))) (by kernel_rfl) (by kernel_rfl) (by rfl) (by kernel_rfl) (Below.refl wi.heap.size wi).drew trivial ?_
            refine k_val (.slice (some ⟨s, 0, none⟩) 2 2) (by apply opN; repeat' (first | apply OpAt.z | apply OpAt.s)) (by rfl) (by rfl) (fun _ W hS => op_mv rfl rfl) ?_
            simp only [Act.put, List.setIfInBounds_toArray, List.set_cons_zero, List.set_cons_succ]
            refine k_val (.pointer (some ⟨s, 0, none⟩)) (by apply opN; repeat' (first | apply OpAt.z | apply OpAt.s)) (by rfl) (by rfl) (fun _ W hS => op_ix rfl rfl rfl (ix_bk0 W)) ?_
            simp only [Act.put, List.setIfInBounds_toArray, List.set_cons_zero, List.set_cons_succ]
            refine k_val (.agg (bks z1 v1)) (by apply opN; repeat' (first | apply OpAt.z | apply OpAt.s)) (by rfl) (by rfl) (fun _ W hS => op_ld rfl rfl (bk_ldm (bk2_r1 (hQ.out W hS).2.g))) ?_
            simp only [Act.put, List.setIfInBounds_toArray, List.set_cons_zero, List.set_cons_succ]
            refine k_val (.slice (some ⟨s, 0, none⟩) 2 2) (by apply opN; repeat' (first | apply OpAt.z | apply OpAt.s)) (by rfl) (by rfl) (fun _ W hS => op_mv rfl rfl) ?_
            simp only [Act.put, List.setIfInBounds_toArray, List.set_cons_zero, List.set_cons_succ]
            refine k_val (.pointer (some ⟨s, 6, none⟩)) (by apply opN; repeat' (first | apply OpAt.z | apply OpAt.s)) (by rfl) (by rfl) (fun _ W hS => op_ix rfl rfl rfl (ix_bk1 W)) ?_
            simp only [Act.put, List.setIfInBounds_toArray, List.set_cons_zero, List.set_cons_succ]
            refine k_val (.agg (bks z2 v2)) (by apply opN; repeat' (first | apply OpAt.z | apply OpAt.s)) (by rfl) (by rfl) (fun _ W hS => op_ld rfl rfl (bk_ldm (bk2_r2 (hQ.out W hS).2.g))) ?_
            simp only [Act.put, List.setIfInBounds_toArray, List.set_cons_zero, List.set_cons_succ]
            refine k_val (.int .i64 h) (by apply opN; repeat' (first | apply OpAt.z | apply OpAt.s)) (by rfl) (by rfl) (fun _ W hS => op_mv rfl rfl) ?_
            simp only [Act.put, List.setIfInBounds_toArray, List.set_cons_zero, List.set_cons_succ]
            refine h_fork ?_ ?_
            · refine k_one (fun K' u => ∃ v4, u = .agg #[.int .i64 h, .int .i64 z2, v4] ∧ K' = fun W => LnsO W wi.heap.size v4 L) (by apply opN; repeat' (first | apply OpAt.z | apply OpAt.s)) (by rfl) (by rfl) (by rfl) (fun W hCW hK => ?_) ?_
              · refine op_x3 rfl rfl rfl rfl rfl cf_of ?_
                refine (of_any z1 z2 h v1 v2 l1 l2 hPs.out.s1 hPs.out.s2 hPs.out.n1 hPs.out.n2 W (hQ.out W hCW).2.r1 (hQ.out W hCW).2.r2).mono ?_
                rintro e W' ⟨v4, rfl, h4, h5⟩
                rw [← hL.out] at h4
                exact ⟨_, rfl, hCW.trans (h5.mono hCW.size), _, own_base h4 hCW.size, v4, rfl, rfl⟩
              rintro _ _ ⟨v4, rfl, rfl⟩
              simp only [Act.put, List.setIfInBounds_toArray, List.set_cons_zero, List.set_cons_succ]
              refine k_step (fun K' u => ∃ g, u = .pointer (some ⟨g, 0, none⟩) ∧ K' = fun W => wi.heap.size ≤ g ∧ W.heap[g]? = some (.cells #[.int .i64 0, .int .i64 0, .slice none 0 0] 39 (0, 0)) ∧ LnsO W wi.heap.size v4 L) (by apply opN; repeat' (first | apply OpAt.z | apply OpAt.s)) (by rfl) (by rfl) (by rfl) (fun W hCW hK => ?_) ?_
              · exact xup_val (op_al rfl (al_st W)) ⟨alloc_bel hCW (Nat.le_refl _) _, _, ⟨hCW.size, alloc_at1 W _, hK.next (alloc_bel (Below.refl _ _) (Nat.le_refl _) _)⟩, W.heap.size, rfl, rfl⟩
              rintro _ _ ⟨g, rfl, rfl⟩
              simp only [Act.put, List.setIfInBounds_toArray, List.set_cons_zero, List.set_cons_succ]
              refine k_step (fun K' u => K' = fun W => W.heap[g]? = some (.cells #[.int .i64 h, .int .i64 z2, v4] 39 (0, 0)) ∧ LnsO W wi.heap.size v4 L) (by apply opN; repeat' (first | apply OpAt.z | apply OpAt.s)) (by rfl) (by rfl) (by rfl) (fun W hCW hK => ?_) ?_
              · obtain ⟨a4, n4, e4⟩ := lnl_block hK.2.2
                obtain ⟨W', r1, r2, r3, r4⟩ := stm_st hK.2.1 h z2 v4 (by rw [e4]; rfl)
                exact xup_skip (op_st rfl rfl rfl r1) ⟨r3 _ _ hCW (Nat.le_refl _) hK.1, _, ⟨r2, own_keep hK.2.2 fun k hk => r4 k (fun e => by
                    obtain ⟨c1, k1⟩ := (own_block hK.2.2 hk).2.2
                    exact blocks_ne k1 hK.2.1 (by decide) e)⟩, rfl⟩
              rintro _ _ rfl
              simp only [Act.put]
              refine k_nil ?_
              intro W hCW hK
              have hG9 := hide (show ∃ g' v', (Value.pointer (some ⟨g, 0, none⟩)) = .pointer (some ⟨g', 0, none⟩) ∧ W.heap[g']? = some (.cells #[.int .i64 h, .int .i64 z2, v'] 39 (0, 0)) ∧ LnsV W v' L ∧ Below wi.heap.size wi W from ⟨g, v4, rfl, hK.1, hK.2.row, hCW⟩)
              clear hCW hK
              go_wp2
              all_goals go_meet
              all_goals exact hG9.out
            · refine k_one (fun K' u => ∃ g, u = .pointer (some ⟨g, 0, none⟩) ∧ K' = fun W => wi.heap.size ≤ g ∧ W.heap[g]? = some (.cells #[.int .i64 0, .int .i64 0, .slice none 0 0] 39 (0, 0))) (by apply opN; repeat' (first | apply OpAt.z | apply OpAt.s)) (by rfl) (by rfl) (by rfl) (fun W hCW hK => ?_) ?_
              · exact xup_val (op_al rfl (al_st W)) ⟨alloc_bel hCW (Nat.le_refl _) _, _, ⟨hCW.size, alloc_at1 W _⟩, W.heap.size, rfl, rfl⟩
              rintro _ _ ⟨g, rfl, rfl⟩
              simp only [Act.put, List.setIfInBounds_toArray, List.set_cons_zero, List.set_cons_succ]
              refine k_step (fun K' u => ∃ v4, u = .agg #[.int .i64 h, .int .i64 z2, v4] ∧ K' = fun W => wi.heap.size ≤ g ∧ W.heap[g]? = some (.cells #[.int .i64 0, .int .i64 0, .slice none 0 0] 39 (0, 0)) ∧ LnsO W wi.heap.size v4 L) (by apply opN; repeat' (first | apply OpAt.z | apply OpAt.s)) (by rfl) (by rfl) (by rfl) (fun W hCW hK => ?_) ?_
              · refine op_x3 rfl rfl rfl rfl rfl cf_of ?_
                refine (of_any z1 z2 h v1 v2 l1 l2 hPs.out.s1 hPs.out.s2 hPs.out.n1 hPs.out.n2 W (hQ.out W hCW).2.r1 (hQ.out W hCW).2.r2).mono ?_
                rintro e W' ⟨v4, rfl, h4, h5⟩
                rw [← hL.out] at h4
                exact ⟨_, rfl, hCW.trans (h5.mono hCW.size), _, ⟨hK.1, (h5.block _ (Array.getElem?_eq_some_iff.1 hK.2).1).trans hK.2, own_base h4 hCW.size⟩, v4, rfl, rfl⟩
              rintro _ _ ⟨v4, rfl, rfl⟩
              simp only [Act.put, List.setIfInBounds_toArray, List.set_cons_zero, List.set_cons_succ]
              refine k_step (fun K' u => K' = fun W => W.heap[g]? = some (.cells #[.int .i64 h, .int .i64 z2, v4] 39 (0, 0)) ∧ LnsO W wi.heap.size v4 L) (by apply opN; repeat' (first | apply OpAt.z | apply OpAt.s)) (by rfl) (by rfl) (by rfl) (fun W hCW hK => ?_) ?_
              · obtain ⟨a4, n4, e4⟩ := lnl_block hK.2.2
                obtain ⟨W', r1, r2, r3, r4⟩ := stm_st hK.2.1 h z2 v4 (by rw [e4]; rfl)
                exact xup_skip (op_st rfl rfl rfl r1) ⟨r3 _ _ hCW (Nat.le_refl _) hK.1, _, ⟨r2, own_keep hK.2.2 fun k hk => r4 k (fun e => by
                    obtain ⟨c1, k1⟩ := (own_block hK.2.2 hk).2.2
                    exact blocks_ne k1 hK.2.1 (by decide) e)⟩, rfl⟩
              rintro _ _ rfl
              simp only [Act.put]
              refine k_nil ?_
              intro W hCW hK
              have hG9 := hide (show ∃ g' v', (Value.pointer (some ⟨g, 0, none⟩)) = .pointer (some ⟨g', 0, none⟩) ∧ W.heap[g']? = some (.cells #[.int .i64 h, .int .i64 z2, v'] 39 (0, 0)) ∧ LnsV W v' L ∧ Below wi.heap.size wi W from ⟨g, v4, rfl, hK.1, hK.2.row, hCW⟩)
              clear hCW hK
              go_wp2
              all_goals go_meet
              all_goals exact hG9.out
          case rest =>
          obtain ⟨g, v4, rfl, hg5, hL5, hBw5⟩ := hcut
          obtain ⟨w5, hw5⟩ : ∃ x, x = wc := ⟨_, rfl⟩
          subst hw5
          have hB5 := hide (fun W (hW : Below w5.heap.size w5 W) => (show Below wi.heap.size wi W from hBw5.trans (hW.mono hBw5.size)))
          have hQ2 := hide (fun W (hW : Below w5.heap.size w5 W) => (show W.heap[g]? = some (.cells #[.int .i64 h, .int .i64 z2, v4] 39 (0, 0)) ∧ LnsV W v4 L from ⟨(hW.block _ (Array.getElem?_eq_some_iff.1 hg5).1).trans hg5, hL5.next hW⟩))
          obtain ⟨t, ht'⟩ : ∃ t, t = RW.tot L := ⟨_, rfl⟩
          have ht := hide ht'
          clear hg5 hL5 hBw5 ht'
          go_upto_region 11 with fail
          refine wp_region_k (fun _ W => Below w5.heap.size w5 W) (fun _ => True) [8, 9, 13, 15] (.op 0 (.op 1 (.op 2 (.op 3 (.op 4 (.op 5 (.op 6 (.op 7 (.op 8 (.op 9 (.op 10 (.op 11 (.op 12 (.op 14 (.op 13 (.op 15 (.op 16 (.op 17 .nil)))))))))))))))))) (by kernel_rfl) (by kernel_rfl) (by rfl) (by kernel_rfl) (Below.refl w5.heap.size w5).drew trivial ?_
          refine k_val (.agg #[.int .i64 h, .int .i64 z2, v4]) (by apply opN; repeat' (first | apply OpAt.z | apply OpAt.s)) (by rfl) (by rfl) (fun _ W hS => op_ld rfl rfl (st_ld (x := (h, z2, v4)) (st_row (hQ2.out W hS).1))) ?_
          simp only [Act.put, List.setIfInBounds_toArray, List.set_cons_zero, List.set_cons_succ]
          refine k_val (.slice (some ⟨s, 0, none⟩) 2 2) (by apply opN; repeat' (first | apply OpAt.z | apply OpAt.s)) (by rfl) (by rfl) (fun _ W hS => op_mv rfl rfl) ?_
          simp only [Act.put, List.setIfInBounds_toArray, List.set_cons_zero, List.set_cons_succ]
          refine k_val (.pointer (some ⟨s, 0, none⟩)) (by apply opN; repeat' (first | apply OpAt.z | apply OpAt.s)) (by rfl) (by rfl) (fun _ W hS => op_ix rfl rfl rfl (ix_bk0 W)) ?_
          simp only [Act.put, List.setIfInBounds_toArray, List.set_cons_zero, List.set_cons_succ]
          refine k_val (.agg (bks z1 v1)) (by apply opN; repeat' (first | apply OpAt.z | apply OpAt.s)) (by rfl) (by rfl) (fun _ W hS => op_ld rfl rfl (bk_ldm (bk2_r1 (hQ.out W (hB5.out W hS)).2.g))) ?_
          simp only [Act.put, List.setIfInBounds_toArray, List.set_cons_zero, List.set_cons_succ]
          refine k_val (.slice (some ⟨s, 0, none⟩) 2 2) (by apply opN; repeat' (first | apply OpAt.z | apply OpAt.s)) (by rfl) (by rfl) (fun _ W hS => op_mv rfl rfl) ?_
          simp only [Act.put, List.setIfInBounds_toArray, List.set_cons_zero, List.set_cons_succ]
          refine k_val (.pointer (some ⟨s, 6, none⟩)) (by apply opN; repeat' (first | apply OpAt.z | apply OpAt.s)) (by rfl) (by rfl) (fun _ W hS => op_ix rfl rfl rfl (ix_bk1 W)) ?_
          simp only [Act.put, List.setIfInBounds_toArray, List.set_cons_zero, List.set_cons_succ]
          refine k_val (.agg (bks z2 v2)) (by apply opN; repeat' (first | apply OpAt.z | apply OpAt.s)) (by rfl) (by rfl) (fun _ W hS => op_ld rfl rfl (bk_ldm (bk2_r2 (hQ.out W (hB5.out W hS)).2.g))) ?_
          simp only [Act.put, List.setIfInBounds_toArray, List.set_cons_zero, List.set_cons_succ]
          refine k_val (.int .i64 h) (by apply opN; repeat' (first | apply OpAt.z | apply OpAt.s)) (by rfl) (by rfl) (fun _ W hS => op_mv rfl rfl) ?_
          simp only [Act.put, List.setIfInBounds_toArray, List.set_cons_zero, List.set_cons_succ]
          refine k_step (fun K' u => ∃ v8, u = .agg #[.int .i64 h, .int .i64 z2, v8] ∧ K' = fun W => LnsV W v8 L) (by apply opN; repeat' (first | apply OpAt.z | apply OpAt.s)) (by rfl) (by rfl) (by rfl) (fun W hCW hK => ?_) ?_
          · refine op_x3 rfl rfl rfl rfl rfl cf_rof ?_
            refine (rof_any z1 z2 h v1 v2 l1 l2 hPs.out.s1 hPs.out.s2 hPs.out.n1 hPs.out.n2 W (hQ.out W (hB5.out W hCW)).2.r1 (hQ.out W (hB5.out W hCW)).2.r2).mono ?_
            rintro e W' ⟨v8, rfl, h4, h5⟩
            rw [← hL.out] at h4
            exact ⟨_, rfl, hCW.trans (h5.mono hCW.size), _, LnsO.row h4, v8, rfl, rfl⟩
          rintro _ _ ⟨v8, rfl, rfl⟩
          simp only [Act.put, List.setIfInBounds_toArray, List.set_cons_zero, List.set_cons_succ]
          refine k_step (fun K' u => u = .bool true ∧ K' = fun _ => True) (by apply opN; repeat' (first | apply OpAt.z | apply OpAt.s)) (by rfl) (by rfl) (by rfl) (fun W hCW hK => ?_) ?_
          · refine op_x2 rfl rfl rfl rfl cf_rsame ?_
            refine (rsame_any h z2 h z2 v4 v8 L L (by have := hLl.out; omega) (by have := hLl.out; omega) W (hQ2.out W hCW).2 hK).mono ?_
            rintro e W' ⟨rfl, h5⟩
            exact ⟨_, rfl, hCW.trans (h5.mono hCW.size), _, trivial, by rw [decide_eq_true ⟨rfl, rfl, rfl⟩], rfl⟩
          rintro _ _ ⟨rfl, rfl⟩
          simp only [Act.put, List.setIfInBounds_toArray, List.set_cons_zero, List.set_cons_succ]
          refine k_val (.bool false) (by apply opN; repeat' (first | apply OpAt.z | apply OpAt.s)) (by rfl) (by rfl) (fun _ W hS => op_not (p := true) rfl rfl) ?_
          simp only [Act.put, List.setIfInBounds_toArray, List.set_cons_zero, List.set_cons_succ]
          refine k_val (.bool false) (by apply opN; repeat' (first | apply OpAt.z | apply OpAt.s)) (by rfl) (by rfl) (fun _ W hS => op_mv rfl rfl) ?_
          simp only [Act.put, List.setIfInBounds_toArray, List.set_cons_zero, List.set_cons_succ]
          refine k_val (.agg #[.int .i64 h, .int .i64 z2, v4]) (by apply opN; repeat' (first | apply OpAt.z | apply OpAt.s)) (by rfl) (by rfl) (fun _ W hS => op_ld rfl rfl (st_ld (x := (h, z2, v4)) (st_row (hQ2.out W hS).1))) ?_
          simp only [Act.put, List.setIfInBounds_toArray, List.set_cons_zero, List.set_cons_succ]
          refine k_val (.agg #[.int .i64 h, .int .i64 z2, v4]) (by apply opN; repeat' (first | apply OpAt.z | apply OpAt.s)) (by rfl) (by rfl) (fun _ W hS => op_ld rfl rfl (st_ld (x := (h, z2, v4)) (st_row (hQ2.out W hS).1))) ?_
          simp only [Act.put, List.setIfInBounds_toArray, List.set_cons_zero, List.set_cons_succ]
          refine k_step (fun K' u => u = .int .i64 t ∧ K' = fun _ => True) (by apply opN; repeat' (first | apply OpAt.z | apply OpAt.s)) (by rfl) (by rfl) (by rfl) (fun W hCW hK => ?_) ?_
          · refine op_x1 rfl rfl rfl cf_total ?_
            refine (total_any h z2 v4 L (by have := hLl.out; omega) W (hQ2.out W hCW).2).mono ?_
            rintro e W' ⟨rfl, h5⟩
            exact ⟨_, rfl, hCW.trans (h5.mono hCW.size), _, trivial, by rw [ht.out], rfl⟩
          rintro _ _ ⟨rfl, rfl⟩
          simp only [Act.put, List.setIfInBounds_toArray, List.set_cons_zero, List.set_cons_succ]
          refine k_step (fun K' u => u = .int .i64 t ∧ K' = fun _ => True) (by apply opN; repeat' (first | apply OpAt.z | apply OpAt.s)) (by rfl) (by rfl) (by rfl) (fun W hCW hK => ?_) ?_
          · refine op_x1 rfl rfl rfl cf_rtotal ?_
            refine (rtotal_any h z2 v4 L (by have := hLl.out; omega) W (hQ2.out W hCW).2).mono ?_
            rintro e W' ⟨rfl, h5⟩
            exact ⟨_, rfl, hCW.trans (h5.mono hCW.size), _, trivial, by rw [ht.out], rfl⟩
          rintro _ _ ⟨rfl, rfl⟩
          simp only [Act.put, List.setIfInBounds_toArray, List.set_cons_zero, List.set_cons_succ]
          refine k_val (.bool false) (by apply opN; repeat' (first | apply OpAt.z | apply OpAt.s)) (by rfl) (by rfl) (fun _ W hS => op_nei rfl rfl rfl) ?_
          simp only [Act.put, List.setIfInBounds_toArray, List.set_cons_zero, List.set_cons_succ]
          refine k_val (.bool false) (by apply opN; repeat' (first | apply OpAt.z | apply OpAt.s)) (by rfl) (by rfl) (fun _ W hS => op_pk rfl rfl rfl rfl rfl) ?_
          simp only [Act.put, List.setIfInBounds_toArray, List.set_cons_zero, List.set_cons_succ]
          refine k_nil ?_
          intro W hCW _
          have hE := hide (show W.heap[gI]? = some (.cells #[.int .i64 hd, .int .i64 (1 + p)] 3 (0, 0)) ∧ Below w4.heap.size w4 W from ⟨(hQ.out W (hB5.out W hCW)).1, hI2.out.2.trans ((hB5.out W hCW).mono hI2.out.2.size)⟩)
          clear hCW hQ hQ2 hB5
          go_wp2
          go_roundw
          case rel => exact ⟨q + 1, by go_num, by omega, hE.out⟩
          case measure => simp [intOf]; omega
        · obtain rfl : q = 2 := by omega
          obtain ⟨wx, hwx⟩ : ∃ x, x = wi := ⟨_, rfl⟩
          subst hwx
          obtain ⟨S, hS'⟩ : ∃ S, S = RW.stAll l1 l2 z2 := ⟨_, rfl⟩
          have hS := hide hS'
          have hSl := hide (show S.length ≤ 100 ∧ ∀ x ∈ S, x.2.2.length ≤ 100 by
            have h1 := RW.stAll_len l1 l2 z2
            have h2 := hPs.out.s1
            have h3 := hPs.out.s2
            rw [hS']
            exact ⟨by omega, fun x hx => by have := RW.stAll_lns hx; omega⟩)
          clear hS'
          go_upto_region 14 with fail
          refine wp_region_k (fun _ W => Below wx.heap.size wx W) (fun _ => True) [6, 13, 14] (.op 0 (.op 1 (.op 2 (.op 3 (.op 4 (.op 5 (.op 7 (.op 8 (.op 9 (.op 10 (.op 11 (.op 12 (.op 6 (.op 13 (.op 14 (.op 15 .nil)))))))))))))))) (by kernel_rfl) (by kernel_rfl) (by rfl) (by kernel_rfl) (Below.refl wx.heap.size wx).drew trivial ?_
          refine k_val (.slice (some ⟨s, 0, none⟩) 2 2) (by apply opN; repeat' (first | apply OpAt.z | apply OpAt.s)) (by rfl) (by rfl) (fun _ W hS => op_mv rfl rfl) ?_
          simp only [Act.put, List.setIfInBounds_toArray, List.set_cons_zero, List.set_cons_succ]
          refine k_val (.pointer (some ⟨s, 0, none⟩)) (by apply opN; repeat' (first | apply OpAt.z | apply OpAt.s)) (by rfl) (by rfl) (fun _ W hS => op_ix rfl rfl rfl (ix_bk0 W)) ?_
          simp only [Act.put, List.setIfInBounds_toArray, List.set_cons_zero, List.set_cons_succ]
          refine k_val (.agg (bks z1 v1)) (by apply opN; repeat' (first | apply OpAt.z | apply OpAt.s)) (by rfl) (by rfl) (fun _ W hS => op_ld rfl rfl (bk_ldm (bk2_r1 (hQ.out W hS).2.g))) ?_
          simp only [Act.put, List.setIfInBounds_toArray, List.set_cons_zero, List.set_cons_succ]
          refine k_val (.slice (some ⟨s, 0, none⟩) 2 2) (by apply opN; repeat' (first | apply OpAt.z | apply OpAt.s)) (by rfl) (by rfl) (fun _ W hS => op_mv rfl rfl) ?_
          simp only [Act.put, List.setIfInBounds_toArray, List.set_cons_zero, List.set_cons_succ]
          refine k_val (.pointer (some ⟨s, 6, none⟩)) (by apply opN; repeat' (first | apply OpAt.z | apply OpAt.s)) (by rfl) (by rfl) (fun _ W hS => op_ix rfl rfl rfl (ix_bk1 W)) ?_
          simp only [Act.put, List.setIfInBounds_toArray, List.set_cons_zero, List.set_cons_succ]
          refine k_val (.agg (bks z2 v2)) (by apply opN; repeat' (first | apply OpAt.z | apply OpAt.s)) (by rfl) (by rfl) (fun _ W hS => op_ld rfl rfl (bk_ldm (bk2_r2 (hQ.out W hS).2.g))) ?_
          simp only [Act.put, List.setIfInBounds_toArray, List.set_cons_zero, List.set_cons_succ]
          refine k_val (.slice (some ⟨s, 0, none⟩) 2 2) (by apply opN; repeat' (first | apply OpAt.z | apply OpAt.s)) (by rfl) (by rfl) (fun _ W hS => op_mv rfl rfl) ?_
          simp only [Act.put, List.setIfInBounds_toArray, List.set_cons_zero, List.set_cons_succ]
          refine k_val (.pointer (some ⟨s, 0, none⟩)) (by apply opN; repeat' (first | apply OpAt.z | apply OpAt.s)) (by rfl) (by rfl) (fun _ W hS => op_ix rfl rfl rfl (ix_bk0 W)) ?_
          simp only [Act.put, List.setIfInBounds_toArray, List.set_cons_zero, List.set_cons_succ]
          refine k_val (.agg (bks z1 v1)) (by apply opN; repeat' (first | apply OpAt.z | apply OpAt.s)) (by rfl) (by rfl) (fun _ W hS => op_ld rfl rfl (bk_ldm (bk2_r1 (hQ.out W hS).2.g))) ?_
          simp only [Act.put, List.setIfInBounds_toArray, List.set_cons_zero, List.set_cons_succ]
          refine k_val (.slice (some ⟨s, 0, none⟩) 2 2) (by apply opN; repeat' (first | apply OpAt.z | apply OpAt.s)) (by rfl) (by rfl) (fun _ W hS => op_mv rfl rfl) ?_
          simp only [Act.put, List.setIfInBounds_toArray, List.set_cons_zero, List.set_cons_succ]
          refine k_val (.pointer (some ⟨s, 6, none⟩)) (by apply opN; repeat' (first | apply OpAt.z | apply OpAt.s)) (by rfl) (by rfl) (fun _ W hS => op_ix rfl rfl rfl (ix_bk1 W)) ?_
          simp only [Act.put, List.setIfInBounds_toArray, List.set_cons_zero, List.set_cons_succ]
          refine k_val (.agg (bks z2 v2)) (by apply opN; repeat' (first | apply OpAt.z | apply OpAt.s)) (by rfl) (by rfl) (fun _ W hS => op_ld rfl rfl (bk_ldm (bk2_r2 (hQ.out W hS).2.g))) ?_
          simp only [Act.put, List.setIfInBounds_toArray, List.set_cons_zero, List.set_cons_succ]
          refine k_step (fun K' u => ∃ v6, u = v6 ∧ K' = fun W => StsV W v6 S) (by apply opN; repeat' (first | apply OpAt.z | apply OpAt.s)) (by rfl) (by rfl) (by rfl) (fun W hCW hK => ?_) ?_
          · refine op_x2 rfl rfl rfl rfl cf_all ?_
            refine (all_any z1 z2 v1 v2 l1 l2 hPs.out.s1 hPs.out.s2 hPs.out.n1 hPs.out.n2 W (hQ.out W hCW).2.r1 (hQ.out W hCW).2.r2).mono ?_
            rintro e W' ⟨v6, vs6, rfl, h4, h5⟩
            rw [← hS.out] at h4
            exact ⟨_, rfl, hCW.trans (h5.mono hCW.size), _, h4.sts, v6, rfl, rfl⟩
          rintro _ v6 ⟨_, rfl, rfl⟩
          simp only [Act.put, List.setIfInBounds_toArray, List.set_cons_zero, List.set_cons_succ]
          refine k_step (fun K' u => ∃ v7, u = v7 ∧ K' = fun W => StsV W v6 S ∧ StsV W v7 S) (by apply opN; repeat' (first | apply OpAt.z | apply OpAt.s)) (by rfl) (by rfl) (by rfl) (fun W hCW hK => ?_) ?_
          · refine op_x2 rfl rfl rfl rfl cf_rall ?_
            refine (rall_any z1 z2 v1 v2 l1 l2 hPs.out.s1 hPs.out.s2 hPs.out.n1 hPs.out.n2 W (hQ.out W hCW).2.r1 (hQ.out W hCW).2.r2).mono ?_
            rintro e W' ⟨v7, vs7, rfl, h4, h5⟩
            rw [← hS.out] at h4
            exact ⟨_, rfl, hCW.trans (h5.mono hCW.size), _, ⟨StsV.next hK h5, h4.sts⟩, v7, rfl, rfl⟩
          rintro _ v7 ⟨_, rfl, rfl⟩
          simp only [Act.put, List.setIfInBounds_toArray, List.set_cons_zero, List.set_cons_succ]
          refine k_step (fun K' u => u = .bool true ∧ K' = fun _ => True) (by apply opN; repeat' (first | apply OpAt.z | apply OpAt.s)) (by rfl) (by rfl) (by rfl) (fun W hCW hK => ?_) ?_
          · refine op_x2 rfl rfl rfl rfl cf_slist ?_
            refine (samelist_any v6 v7 S S (by have := hSl.out.1; omega) (fun x hx => by have := hSl.out.2 x hx; omega) (fun x hx => by have := hSl.out.2 x hx; omega) W hK.1 hK.2).mono ?_
            rintro e W' ⟨rfl, h5⟩
            exact ⟨_, rfl, hCW.trans (h5.mono hCW.size), _, trivial, by rw [decide_eq_true rfl], rfl⟩
          rintro _ _ ⟨rfl, rfl⟩
          simp only [Act.put, List.setIfInBounds_toArray, List.set_cons_zero, List.set_cons_succ]
          refine k_val (.bool false) (by apply opN; repeat' (first | apply OpAt.z | apply OpAt.s)) (by rfl) (by rfl) (fun _ W hS => op_not (p := true) rfl rfl) ?_
          simp only [Act.put, List.setIfInBounds_toArray, List.set_cons_zero, List.set_cons_succ]
          refine k_nil ?_
          intro W hCW _
          have hE := hide (show Below w4.heap.size w4 W from hI2.out.2.trans (hCW.mono hI2.out.2.size))
          clear hCW hQ
          go_wp2
          go_roundw
          case rel => exact ⟨j + 1, by go_num, by have := hjH.out; omega, hE.out⟩
          case measure => simp [intOf]; have := hjH.out; omega
    · obtain rfl : j = 3 := by omega
      have hE := hide (show Below B w wo from hBw.out.trans (hBo.out.mono (by rw [hBH.out]; exact hBw.out.size)))
      go_wp2
      go_ret
      exact ⟨rfl, hE.out⟩
end Go.Proofs.Ytillplhadimgmaa

/-
  Package disk: Write: what it returns, what it changes.
-/
import Derived.Test.YtllbphanfahkkaaGreatDoorDk6
namespace Go.Proofs.YtllbphanfahkkaaGreatDoor
open Go.RowKit RG
theorem ldRow_write (x : Value) : Instr.loadAt 103 x = ldRow 103 x := rfl
theorem write_ld {W : World} {g o : Nat} {x : Nat × ByteArray} (h : W.rangeAt g o (RW.wrl x)) : (ldRow 103 (.pointer (some ⟨g, o, none⟩))).run Tryz.prog W = .ok (.agg (RW.wrl x).toArray) W :=
  ldRow_mid (fun j u hj => h j u (by simpa using hj)) Tryz.underlying103 rfl (write_size x)
theorem write_ldAt {W : World} {g : Nat} {x : Nat × ByteArray} (h : W.heap[g]? = some (.cells (RW.wrl x).toArray 103 (0, 0))) : (ldRow 103 (.pointer (some ⟨g, 0, none⟩))).run Tryz.prog W = .ok (.agg (RW.wrl x).toArray) W :=
  ldRow_mid (fun j u hj => by rw [cellAt h, Nat.zero_add]; simpa using hj) Tryz.underlying103 rfl (write_size x)
section
variable {ev : Operand → Value} {o : Oper} {x y : Operand} {w : World}
theorem op_load_w {b i : Nat} {v : Value} (ho : o.op = .load 103 x) (hx : ev x = .pointer (some ⟨b, i, none⟩)) (hv : (ldRow 103 (.pointer (some ⟨b, i, none⟩))).run Tryz.prog w = .ok v w) : (execOp ev o).run Tryz.prog w = .ok (.value v) w := by
  have h1 : (Instr.loadAt 103 (.pointer (some ⟨b, i, none⟩))).run Tryz.prog w = .ok v w := hv
  unfold execOp
  rw [ho]
  simp only [hx, Sem.run_bind, h1, Result.andThen_ok, Sem.run_pure]
theorem op_bs_w {q : Nat × ByteArray} (ho : o.op = .buildSlice 104 1 #[(0, x)]) (hx : ev x = .agg (RW.wrl q).toArray) : (execOp ev o).run Tryz.prog w = .ok (.value (.slice (some ⟨w.heap.size, 0, none⟩) 1 1)) (w.alloc (.cells (RW.wrl q).toArray 103)) := by
  have hl := wrl_len q
  unfold execOp
  rw [ho]
  go_simp
  rfl
theorem op_store_ws {b i : Nat} {p : Option Addr} {n c : Nat} {u : Value} (ho : o.op = .store 104 x y) (hx : ev x = .pointer (some ⟨b, i, none⟩)) (hy : ev y = .slice p n c) (hc : w.cell? ⟨b, i, none⟩ = some u) (hf : w.frozen? ⟨b, i, none⟩ = false) :
    (execOp ev o).run Tryz.prog w = .ok .skip (w.setCell ⟨b, i, none⟩ (.slice p n c)) := by
  unfold execOp
  rw [ho]
  simp only [hx, hy]
  go_simp
end
theorem write_info : (Tryz.prog.info? 103).map (fun i => (i.zero, i.size, i.bytes)) = some (some (.agg #[.int .i64 0, .string ⟨#[]⟩]), 2, 24) := by kernel_rfl
/-- a disk, a write appended that its struct does not yet hold -/
structure DiskApp (W : World) (B b n db vb : Nat) (pv u : Value) (S : RW.Dk) (l : List (Nat × ByteArray)) : Prop where
  row : W.heap[b]? = some (.cells (RW.dkl S.off (S.left : Int) (.slice (some ⟨db, 0, none⟩) n n) (.slice (some ⟨vb, 0, none⟩) n n) pv) 108 (0, 0))
  dur : W.heap[db]? = some (.cells (RW.byl S.dur).toArray 5 (0, 0))
  vis : W.heap[vb]? = some (.cells (RW.byl S.vis).toArray 5 (0, 0))
  pend : W.ownsRow B 103 2 u l.length (rowCells RW.wrl l)
theorem diskApp {W0 W W' : World} {B b n db vb : Nat} {pv u : Value} {S : RW.Dk} {l : List (Nat × ByteArray)} (h : DiskAt W B b n db vb pv S) (hg : W.grownBy W' pv.ownBlock) (ho : W'.ownsRow B 103 2 u l.length (rowCells RW.wrl l)) (hT : Tch b db vb W0 W) :
    DiskApp W' B b n db vb pv u S l ∧ Tch b db vb W0 W' := by
  obtain ⟨a1, a2, a3⟩ := h.apart
  obtain ⟨l1, l2, l3⟩ := h.lt
  refine ⟨⟨(hg.block b l1 fun e => (a3 b e.symm).1 rfl).trans h.row, (hg.block db l2 fun e => (a3 db e.symm).2.1 rfl).trans h.dur, (hg.block vb l3 fun e => (a3 vb e.symm).2.2 rfl).trans h.vis, ho⟩, hT.trans ⟨hg.os, hg.tape, hg.output, hg.size, fun k hk _ _ _ h4 => hg.block k hk fun e => ?_⟩⟩
  rcases h.pend.2 with ⟨rfl, _⟩ | ⟨g, cap, cur, rfl, _, hh, _⟩
  · cases e
  · cases e
    exact h4 _ _ hh
theorem DiskApp.put {W0 W : World} {B b n db vb : Nat} {pv u : Value} {S : RW.Dk} {l : List (Nat × ByteArray)} (h : DiskApp W B b n db vb pv u S l) (hb : B ≤ b) (hd : B ≤ db) (hv : B ≤ vb) (hne : db ≠ vb) (ld : S.dur.length = n) (lv : S.vis.length = n) (hn : n ≤ 4194304) (lf : (S.left : Int) ≤ 9223372036854775807)
    (hT : Tch b db vb W0 W) : DiskAt (W.setCell ⟨b, 4, none⟩ u) B b n db vb u ⟨S.off, S.left, S.dur, S.vis, l⟩ ∧ Tch b db vb W0 (W.setCell ⟨b, 4, none⟩ u) := by
  have h1 : b ≠ db := blocks_ne h.row h.dur (by decide)
  have h2 : b ≠ vb := blocks_ne h.row h.vis (by decide)
  refine ⟨⟨(heap_setCell_same _ _ _ _ _ _ h.row).trans rfl, (Below.heap_setCell _ _ _ _ (Ne.symm h1)).trans h.dur, (Below.heap_setCell _ _ _ _ (Ne.symm h2)).trans h.vis, own_keep h.pend fun g hg => ?_, hb, hd, hv, hne, ld, lv, hn, lf⟩, hT.trans ⟨rfl, rfl, rfl, by simp, fun k _ hk _ _ _ => Below.heap_setCell _ _ _ _ hk⟩⟩
  refine Below.heap_setCell _ _ _ _ ?_
  rcases h.pend.2 with ⟨rfl, _⟩ | ⟨g', cap, cur, rfl, _, h3, _⟩
  · cases hg
  · cases hg
    exact blocks_ne h3 h.row (by decide)
theorem used_le {off : Bool} {left : Nat} (h : (left : Int) ≤ 9223372036854775807) : ((RW.used off left).2 : Int) ≤ 9223372036854775807 := by
  unfold RW.used
  split
  · exact h
  · show ((left - 1 : Nat) : Int) ≤ _
    omega
theorem DiskAt.visChg {W W' : World} {B b n db vb : Nat} {pv : Value} {S : RW.Dk} {l : List UInt8} (h : DiskAt W B b n db vb pv S) (h1 : W'.heap[vb]? = some (.cells (RW.byl l).toArray 5 (0, 0))) (h2 : Chg vb W W') (hl : l.length = n) :
    DiskAt W' B b n db vb pv ⟨S.off, S.left, S.dur, l, S.pend⟩ ∧ Tch b db vb W W' ∧ Below B W W' := by
  obtain ⟨a1, a2, a3⟩ := h.apart
  obtain ⟨l1, l2, l3⟩ := h.lt
  exact ⟨⟨(h2.block b l1 a2).trans h.row, (h2.block db l2 h.ne).trans h.dur, h1, own_keep h.pend fun g hg => h2.block g (h.pend.lt g hg).2 (a3 g hg).2.2, h.hb, h.hd, h.hv, h.ne, h.ld, hl, h.hn, h.lf⟩, ⟨h2.os, h2.tape, h2.output, h2.size, fun k hk _ _ h3 _ => h2.block k hk h3⟩, h2.below h.hv (Nat.le_trans h.hb (Nat.le_of_lt l1))⟩
theorem DiskAt.durChg {W W' : World} {B b n db vb : Nat} {pv : Value} {S : RW.Dk} {l : List UInt8} (h : DiskAt W B b n db vb pv S) (h1 : W'.heap[db]? = some (.cells (RW.byl l).toArray 5 (0, 0))) (h2 : Chg db W W') (hl : l.length = n) :
    DiskAt W' B b n db vb pv ⟨S.off, S.left, l, S.vis, S.pend⟩ ∧ Tch b db vb W W' ∧ Below B W W' := by
  obtain ⟨a1, a2, a3⟩ := h.apart
  obtain ⟨l1, l2, l3⟩ := h.lt
  exact ⟨⟨(h2.block b l1 a1).trans h.row, h1, (h2.block vb l3 (Ne.symm h.ne)).trans h.vis, own_keep h.pend fun g hg => h2.block g (h.pend.lt g hg).2 (a3 g hg).2.1, h.hb, h.hd, h.hv, h.ne, hl, h.lv, h.hn, h.lf⟩, ⟨h2.os, h2.tape, h2.output, h2.size, fun k hk _ h3 _ _ => h2.block k hk h3⟩, h2.below h.hd (Nat.le_trans h.hb (Nat.le_of_lt l1))⟩
theorem DiskAt.rowChg {W W' : World} {B b n db vb : Nat} {pv : Value} {S : RW.Dk} {off : Bool} {left : Nat} (h : DiskAt W B b n db vb pv S) (h1 : W'.heap[b]? = some (.cells (RW.dkl off (left : Int) (.slice (some ⟨db, 0, none⟩) n n) (.slice (some ⟨vb, 0, none⟩) n n) pv) 108 (0, 0))) (h2 : Chg b W W') (hl : (left : Int) ≤ 9223372036854775807) :
    DiskAt W' B b n db vb pv ⟨off, left, S.dur, S.vis, S.pend⟩ ∧ Tch b db vb W W' ∧ Below B W W' := by
  obtain ⟨a1, a2, a3⟩ := h.apart
  obtain ⟨l1, l2, l3⟩ := h.lt
  exact ⟨⟨h1, (h2.block db l2 (Ne.symm a1)).trans h.dur, (h2.block vb l3 (Ne.symm a2)).trans h.vis, own_keep h.pend fun g hg => h2.block g (h.pend.lt g hg).2 (a3 g hg).1, h.hb, h.hd, h.hv, h.ne, h.ld, h.lv, h.hn, hl⟩, ⟨h2.os, h2.tape, h2.output, h2.size, fun k hk h3 _ _ _ => h2.block k hk h3⟩, h2.below h.hb (Nat.le_trans h.hb (Nat.le_of_lt l1))⟩
set_option maxRecDepth 10000 in
set_option maxHeartbeats 1000000 in
theorem write_any (B b n db vb : Nat) (pv : Value) (S : RW.Dk) (o : Int) (s : ByteArray) (w : World) (h : DiskAt w B b n db vb pv S) (hp : S.pend.length < 1000000) (hs : s.size ≤ 9223372036854775807) :
    Calls Tryz.prog 14 #[.pointer (some ⟨b, 0, none⟩), .int .i64 o, .string s] w fun e w' => e = .returned (.int .i64 (S.write n o s).1) ∧ ∃ pv', DiskAt w' B b n db vb pv' (S.write n o s).2 ∧ Tch b db vb w w' ∧ Below B w w' := by
  have hC := hide (check_any b S.off S.left _ _ pv w h.row)
  have hI := hide (inside_any b S.off S.left (some ⟨db, 0, none⟩) n n _ pv o (s.size : Int) w h.row h.hn)
  have hH := hide h
  obtain ⟨r, hr⟩ : ∃ r, r = S.write n o s := ⟨_, rfl⟩
  rw [← hr]
  rw [RW.Dk.write] at hr
  cases hoff : S.off
  · rw [hoff, if_neg Bool.false_ne_true] at hr
    rw [hoff] at hC
    cases hin : RW.insB n o (s.size : Int)
    · rw [hin] at hI
      rw [hin, if_neg Bool.false_ne_true] at hr
      have hrH := hide hr
      clear hr h hoff hin
      go_enter Tryz.func14, Tryz.ntmps14
      go_wp2_with (first
        | (go_at_call 51; refine hC.out.mono ?_; rintro e w' ⟨rfl, rfl⟩)
        | (go_at_call 52; refine hI.out.mono ?_; rintro e w' ⟨rfl, rfl⟩))
      go_ret
      exact ⟨by rw [hrH.out] <;> rfl, pv, by rw [hrH.out]; exact hH.out, Tch.refl _ _ _ _, Below.refl _ _⟩
    · obtain ⟨i1, i2, i3, i4⟩ := (RW.insB_iff n o _).1 hin
      rw [hin] at hI
      rw [hin, if_pos rfl] at hr
      obtain ⟨i, rfl⟩ : ∃ i : Nat, o = i := ⟨o.toNat, by omega⟩
      rw [Int.toNat_natCast] at hr
      have hi := hide (show i + s.size ≤ n by omega)
      have hrH := hide hr
      have hoffH := hide hoff
      obtain ⟨ap, cp, rfl⟩ := h.form
      obtain ⟨kp, hkp⟩ : ∃ k, k = S.pend.length := ⟨_, rfl⟩
      rw [← hkp] at hH
      obtain ⟨wb, hwb⟩ : ∃ b, b = w.heap.size := ⟨_, rfl⟩
      have hA := hide ((Below.refl w.heap.size w).alloc (Nat.le_refl _) (.cells (RW.wrl (i, s)).toArray 103))
      have hx0 := hide (show (w.alloc (.cells (RW.wrl (i, s)).toArray 103)).heap[wb]? = some (.cells (RW.wrl (i, s)).toArray 103 (0, 0)) from newAt hwb)
      have hwbH := hide hwb
      have hpH := hide hp
      have hbl := hide (show b < wb ∧ db < wb ∧ vb < wb from hwb ▸ h.lt)
      have hle := hide (Nat.le_trans h.hb (Nat.le_of_lt h.lt.1))
      clear hr h hoff hin hkp hwb i1 i2 i3 i4 hp
      go_enter Tryz.func14, Tryz.ntmps14
      go_upto_region 7 with (first
        | (go_at_call 51; refine hC.out.mono ?_; rintro e w' ⟨rfl, rfl⟩)
        | (go_at_call 52; refine hI.out.mono ?_; rintro e w' ⟨rfl, rfl⟩)
        | (refine wpListStoreNew rfl 103 (.tmp 8) (.tmp 22) rfl (RW.wrl (i, s)).toArray rfl rfl 103 _ (write_size _) rfl rfl ?_))
      rw [← hwbH.out]
      refine gen_w (fun W => W.heap[wb]? = some (.cells (RW.wrl (i, s)).toArray 103 (0, 0)) ∧ DiskAt W B b n db vb (.slice ap kp cp) S ∧ Tch b db vb w W ∧ Below B w W) ⟨hx0.out, hH.out.next hA.out, Tch.of_below hA.out, hA.out.mono hle.out⟩ ?_
      rintro w1 ⟨g1, g2, g3, g4⟩
      have hx1 := hide g1
      have hd1 := hide g2
      have ht1 := hide g3
      have hb1 := hide g4
      clear g1 g2 g3 g4 hx0 hA hC hI
      refine wp_region_k (fun g W => W.heap[wb]? = some (.cells (RW.wrl (i, s)).toArray 103 (0, 0)) ∧ (10 ∉ g → W.heap[b]? = some (.cells (RW.dkl S.off (S.left : Int) (.slice (some ⟨db, 0, none⟩) n n) (.slice (some ⟨vb, 0, none⟩) n n) (.slice ap kp cp)) 108 (0, 0)))) (fun W => DiskAt W B b n db vb (.slice ap kp cp) S ∧ Tch b db vb w W ∧ Below B w W) [6, 7, 10] (.op 0 (.op 1 (.op 2 (.op 3 (.op 4 (.op 5 (.op 6 (.op 7 (.op 8 (.op 9 (.op 10 .nil))))))))))) (by kernel_rfl) (by kernel_rfl) (by rfl) (by kernel_rfl) ⟨hx1.out, fun _ => hd1.out.row⟩ ⟨hd1.out.next (Below.refl _ _).drew, ht1.out.trans (Tch.of_below (Below.refl _ _).drew), hb1.out.trans (Below.refl _ _).drew⟩ ?_
      refine k_val (.pointer (some ⟨b, 0, none⟩)) (by apply opN; repeat' (first | apply OpAt.z | apply OpAt.s)) (by rfl) (by rfl) (fun _ W hS => op_mv rfl rfl) ?_
      simp only [Act.put, List.setIfInBounds_toArray, List.set_cons_zero, List.set_cons_succ]
      refine k_val (.pointer (some ⟨b, 0, none⟩)) (by apply opN; repeat' (first | apply OpAt.z | apply OpAt.s)) (by rfl) (by rfl) (fun _ W hS => op_mv rfl rfl) ?_
      simp only [Act.put, List.setIfInBounds_toArray, List.set_cons_zero, List.set_cons_succ]
      refine k_val (.pointer (some ⟨b, 0, none⟩)) (by apply opN; repeat' (first | apply OpAt.z | apply OpAt.s)) (by rfl) (by rfl) (fun _ W hS => op_nc rfl rfl) ?_
      simp only [Act.put, List.setIfInBounds_toArray, List.set_cons_zero, List.set_cons_succ]
      refine k_val (.pointer (some ⟨b, 4, none⟩)) (by apply opN; repeat' (first | apply OpAt.z | apply OpAt.s)) (by rfl) (by rfl) (fun _ W hS => op_fa_d (i := 3) (by decide) rfl rfl rfl) ?_
      simp only [Act.put, List.setIfInBounds_toArray, List.set_cons_zero, List.set_cons_succ]
      refine k_bef 10 (.slice ap kp cp) (by apply opN; repeat' (first | apply OpAt.z | apply OpAt.s)) (by rfl) (by rfl) (by decide +kernel) (by rfl) (fun g W hg hS => op_load_ws rfl rfl (cellAt (hS.2 hg) 4)) ?_
      simp only [Act.put, List.setIfInBounds_toArray, List.set_cons_zero, List.set_cons_succ]
      refine k_val (.agg (RW.wrl (i, s)).toArray) (by apply opN; repeat' (first | apply OpAt.z | apply OpAt.s)) (by rfl) (by rfl) (fun _ W hS => op_load_w rfl rfl (write_ldAt hS.1)) ?_
      simp only [Act.put, List.setIfInBounds_toArray, List.set_cons_zero, List.set_cons_succ]
      refine k_step (fun K' u => ∃ g, u = .slice (some ⟨g, 0, none⟩) 1 1 ∧ K' = fun W => (DiskAt W B b n db vb (.slice ap kp cp) S ∧ Tch b db vb w W ∧ Below B w W) ∧ RowV 2 RW.wrl W u [(i, s)]) (by apply opN; repeat' (first | apply OpAt.z | apply OpAt.s)) (by rfl) (by rfl) (by rfl) (fun W hC hK => ?_) ?_
      · rw [op_bs_w rfl rfl]
        have hA := (Below.refl W.heap.size W).alloc (Nat.le_refl _) (.cells (RW.wrl (i, s)).toArray 103)
        have hl : RowV 2 RW.wrl (W.alloc (.cells (rowCells RW.wrl [(i, s)]).toArray 103)) (.slice (some ⟨W.heap.size, 0, none⟩) 1 1) [(i, s)] := rows_lit W 103 wrl_len [(i, s)]
        rw [show rowCells RW.wrl [(i, s)] = RW.wrl (i, s) by rw [rowCells, List.flatMap_cons, List.flatMap_nil, List.append_nil]] at hl
        exact ⟨⟨(hA.block _ (Array.getElem?_eq_some_iff.1 hC.1).1).trans hC.1, fun _ => (hK.1.next hA).row⟩, _, ⟨⟨hK.1.next hA, hK.2.1.trans (Tch.of_below hA), hK.2.2.trans (hA.mono (Nat.le_trans hK.1.hb (Nat.le_of_lt hK.1.lt.1)))⟩, hl⟩, W.heap.size, rfl, rfl⟩
      rintro _ _ ⟨g6, rfl, rfl⟩
      simp only [Act.put, List.setIfInBounds_toArray, List.set_cons_zero, List.set_cons_succ]
      refine k_step (fun K' u => ∃ a k c, u = .slice a k c ∧ K' = fun W => DiskApp W B b n db vb (.slice ap kp cp) u S (S.pend ++ [(i, s)]) ∧ Tch b db vb w W ∧ Below B w W) (by apply opN; repeat' (first | apply OpAt.z | apply OpAt.s)) (by rfl) (by rfl) (by rfl) (fun W hC hK => ?_) ?_
      · obtain ⟨v', W', h1, h2, h3, h4⟩ := run_app_rows (P := Tryz.prog) 104 Tryz.underlying104 write_info (by rfl) (by decide) wrl_len wrl_one hK.1.1.pend (Nat.le_trans hK.1.1.hb (Nat.le_of_lt hK.1.1.lt.1)) hK.2 (by have := hpH.out; unfold maxLen; simp; omega) (by have := hpH.out; simp; omega)
        obtain ⟨a, c, rfl⟩ : ∃ a c, v' = .slice a (S.pend ++ [(i, s)]).length c := by
          rcases h2.2 with ⟨rfl, h0⟩ | ⟨g, cap, cur, rfl, _⟩
          · exact ⟨none, 0, by rw [h0]⟩
          · exact ⟨_, _, rfl⟩
        obtain ⟨k1, k2⟩ := diskApp hK.1.1 h4 h2 hK.1.2.1
        rw [op_app rfl rfl rfl h1]
        refine ⟨⟨?_, fun _ => k1.row⟩, _, ⟨k1, k2, hK.1.2.2.trans h3⟩, a, _, c, rfl, rfl⟩
        refine (h4.block wb (Array.getElem?_eq_some_iff.1 hC.1).1 fun e => ?_).trans hC.1
        exact absurd (hH.out.pend.lt wb e.symm).2 (by rw [← hwbH.out]; exact Nat.lt_irrefl _)
      rintro _ _ ⟨a7, k7, c7, rfl, rfl⟩
      simp only [Act.put, List.setIfInBounds_toArray, List.set_cons_zero, List.set_cons_succ]
      refine k_val (.pointer (some ⟨b, 0, none⟩)) (by apply opN; repeat' (first | apply OpAt.z | apply OpAt.s)) (by rfl) (by rfl) (fun _ W hS => op_nc rfl rfl) ?_
      simp only [Act.put, List.setIfInBounds_toArray, List.set_cons_zero, List.set_cons_succ]
      refine k_val (.pointer (some ⟨b, 4, none⟩)) (by apply opN; repeat' (first | apply OpAt.z | apply OpAt.s)) (by rfl) (by rfl) (fun _ W hS => op_fa_d (i := 3) (by decide) rfl rfl rfl) ?_
      simp only [Act.put, List.setIfInBounds_toArray, List.set_cons_zero, List.set_cons_succ]
      refine k_step (fun K' u => u = undef ∧ K' = fun W => DiskAt W B b n db vb (.slice a7 k7 c7) ⟨S.off, S.left, S.dur, S.vis, S.pend ++ [(i, s)]⟩ ∧ Tch b db vb w W ∧ Below B w W) (by apply opN; repeat' (first | apply OpAt.z | apply OpAt.s)) (by rfl) (by rfl) (by rfl) (fun W hC hK => ?_) ?_
      · rw [op_store_ws rfl rfl rfl (cellAt hK.1.row 4) (by simp [World.frozen?, hK.1.row])]
        obtain ⟨k1, k2⟩ := hK.1.put hH.out.hb hH.out.hd hH.out.hv hH.out.ne hH.out.ld hH.out.lv hH.out.hn hH.out.lf hK.2.1
        exact ⟨⟨(Below.heap_setCell _ _ _ _ (by show wb ≠ b; exact Ne.symm (Nat.ne_of_lt hbl.out.1))).trans hC.1, fun h => absurd (by simp) h⟩, _, ⟨k1, k2, hK.2.2.setCell (p := ⟨b, 4, none⟩) hH.out.hb _⟩, rfl, rfl⟩
      rintro _ _ ⟨rfl, rfl⟩
      simp only [Act.put]
      refine k_nil ?_
      intro W hC hK
      have hx2 := hide hC.1
      have hK2 := hide hK
      clear hC hK hd1 ht1 hb1 hx1
      go_upto_region 8 with fail
      have hOn := hide (fun W (h : DiskAt W B b n db vb (.slice a7 k7 c7) ⟨S.off, S.left, S.dur, S.vis, S.pend ++ [(i, s)]⟩) => onto_any i s vb n S.vis W h.vis h.lv hi.out h.hn)
      refine wp_region_k (fun _ W => W.heap[wb]? = some (.cells (RW.wrl (i, s)).toArray 103 (0, 0)) ∧ W.heap[b]? = some (.cells (RW.dkl S.off (S.left : Int) (.slice (some ⟨db, 0, none⟩) n n) (.slice (some ⟨vb, 0, none⟩) n n) (.slice a7 k7 c7)) 108 (0, 0))) (fun W => DiskAt W B b n db vb (.slice a7 k7 c7) ⟨S.off, S.left, S.dur, S.vis, S.pend ++ [(i, s)]⟩ ∧ Tch b db vb w W ∧ Below B w W) [5] (.op 0 (.op 1 (.op 2 (.op 3 (.op 4 (.op 5 .nil)))))) (by kernel_rfl) (by kernel_rfl) (by rfl) (by kernel_rfl) ⟨hx2.out, hK2.out.1.row⟩ ⟨hK2.out.1.next (Below.refl _ _).drew, hK2.out.2.1.trans (Tch.of_below (Below.refl _ _).drew), hK2.out.2.2.trans (Below.refl _ _).drew⟩ ?_
      refine k_val (.agg (RW.wrl (i, s)).toArray) (by apply opN; repeat' (first | apply OpAt.z | apply OpAt.s)) (by rfl) (by rfl) (fun _ W hS => op_load_w rfl rfl (write_ldAt hS.1)) ?_
      simp only [Act.put, List.setIfInBounds_toArray, List.set_cons_zero, List.set_cons_succ]
      refine k_val (.pointer (some ⟨b, 0, none⟩)) (by apply opN; repeat' (first | apply OpAt.z | apply OpAt.s)) (by rfl) (by rfl) (fun _ W hS => op_mv rfl rfl) ?_
      simp only [Act.put, List.setIfInBounds_toArray, List.set_cons_zero, List.set_cons_succ]
      refine k_val (.pointer (some ⟨b, 0, none⟩)) (by apply opN; repeat' (first | apply OpAt.z | apply OpAt.s)) (by rfl) (by rfl) (fun _ W hS => op_nc rfl rfl) ?_
      simp only [Act.put, List.setIfInBounds_toArray, List.set_cons_zero, List.set_cons_succ]
      refine k_val (.pointer (some ⟨b, 3, none⟩)) (by apply opN; repeat' (first | apply OpAt.z | apply OpAt.s)) (by rfl) (by rfl) (fun _ W hS => op_fa_d (i := 2) (by decide) rfl rfl rfl) ?_
      simp only [Act.put, List.setIfInBounds_toArray, List.set_cons_zero, List.set_cons_succ]
      refine k_val (.slice (some ⟨vb, 0, none⟩) n n) (by apply opN; repeat' (first | apply OpAt.z | apply OpAt.s)) (by rfl) (by rfl) (fun _ W hS => op_load_by rfl rfl (cellAt hS.2 3)) ?_
      simp only [Act.put, List.setIfInBounds_toArray, List.set_cons_zero, List.set_cons_succ]
      refine k_step (fun K' u => K' = fun W => DiskAt W B b n db vb (.slice a7 k7 c7) ⟨S.off, S.left, S.dur, RW.lay S.vis i s.data.toList, S.pend ++ [(i, s)]⟩ ∧ Tch b db vb w W ∧ Below B w W) (by apply opN; repeat' (first | apply OpAt.z | apply OpAt.s)) (by rfl) (by rfl) (by rfl) (fun W hC hK => ?_) ?_
      · refine op_x2 rfl rfl rfl rfl (fun _ _ => rfl) ((hOn.out W hK.1).mono ?_)
        rintro e W' ⟨⟨v, rfl⟩, h1, h2⟩
        obtain ⟨k1, k2, k3⟩ := hK.1.visChg h1 h2 (by rw [lay_len (by rw [hK.1.lv, Array.length_toList]; exact hi.out)]; exact hK.1.lv)
        exact ⟨_, rfl, ⟨(h2.block wb (Array.getElem?_eq_some_iff.1 hC.1).1 (Ne.symm (Nat.ne_of_lt hbl.out.2.2))).trans hC.1, k1.row⟩, _, ⟨k1, hK.2.1.trans k2, hK.2.2.trans k3⟩, rfl⟩
      rintro _ _ rfl
      simp only [Act.put, List.setIfInBounds_toArray, List.set_cons_zero, List.set_cons_succ]
      refine k_nil ?_
      intro W hC hK
      have hK3 := hide hK
      have hUs := hide (used_any b S.off S.left _ _ (.slice a7 k7 c7) W hK.1.lf hK.1.row)
      clear hC hK hOn hK2 hx2
      go_wp2_with (go_at_call 54; refine hUs.out.mono ?_; rintro e w9 ⟨⟨v9, rfl⟩, h1, h2⟩; have h1H := hide h1; have h2H := hide h2; clear h1 h2)
      go_ret
      obtain ⟨k1, k2, k3⟩ := hK3.out.1.rowChg h1H.out h2H.out (used_le hK3.out.1.lf)
      exact ⟨by rw [hrH.out] <;> rfl, .slice a7 k7 c7, by rw [hrH.out, ← hoffH.out]; exact k1, hK3.out.2.1.trans k2, hK3.out.2.2.trans k3⟩
  · rw [hoff, if_pos rfl] at hr
    rw [hoff] at hC
    have hrH := hide hr
    clear hr h hoff
    go_enter Tryz.func14, Tryz.ntmps14
    go_wp2_with (go_at_call 51; refine hC.out.mono ?_; rintro e w' ⟨rfl, rfl⟩)
    go_ret
    exact ⟨by rw [hrH.out] <;> rfl, pv, by rw [hrH.out]; exact hH.out, Tch.refl _ _ _ _, Below.refl _ _⟩
end Go.Proofs.YtllbphanfahkkaaGreatDoor

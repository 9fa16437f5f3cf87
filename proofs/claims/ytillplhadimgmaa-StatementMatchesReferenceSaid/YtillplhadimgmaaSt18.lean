/-
  Package royaltyref19: Encode: what it returns; only new memory is written.
-/
import Derived.Test.YtillplhadimgmaaSt10
import Derived.Test.YtillplhadimgmaaSt17
import Derived.Test.YtillplhadimgmaaSt13
namespace Go.Proofs.Ytillplhadimgmaa
open Go.RowKit RG
theorem IntsO.appR {W : World} {B : Nat} {v y : Value} {l m : List Int} (h : IntsO W B v l) (hy : RowV 1 encI W y m) (hl : l.length + m.length ≤ 1000000) (hB : B ≤ W.heap.size) :
    ∃ v' W', (Builtin.append_ #[36, 36] 36 #[v, y]).run Try.prog W = .ok v' W' ∧ IntsO W' B v' (l ++ m) ∧ Below B W W' := by
  have hown : W.ownsRow B 3 1 v l.length (rowCells encI l) := by rw [intCells]; exact h
  obtain ⟨v', W', h1, h2, h3, _, _⟩ := run_app_at (P := Try.prog) 36 Try.underlying36 int_info (by rfl) (by decide) (fun _ => rfl) (by intro x u hu; simp at hu; rw [hu]; rfl) hown hB hy (by unfold maxLen; omega) (by omega)
  rw [intCells] at h2
  exact ⟨v', W', h1, h2, h3⟩
theorem ints_lit (W : World) (x y z : Int) {B : Nat} (hB : B ≤ W.heap.size) : IntsO (W.alloc (.cells #[.int .i64 x, .int .i64 y, .int .i64 z] 3)) B (.slice (some ⟨W.heap.size, 0, none⟩) 3 3) [x, y, z] :=
  ⟨rfl, .inr ⟨W.heap.size, 3, #[.int .i64 x, .int .i64 y, .int .i64 z], rfl, hB, alloc_at1 _ _, Nat.le_refl _, by unfold maxLen; omega, rfl, rfl⟩⟩
theorem op_bs3 {ev : Operand → Value} {o : Oper} {x y z : Operand} {w : World} {a b c : Int} (ho : o.op = .buildSlice 36 3 #[(0, x), (1, y), (2, z)]) (hx : ev x = .int .i64 a) (hy : ev y = .int .i64 b) (hz : ev z = .int .i64 c) :
    (execOp ev o).run Try.prog w = .ok (.value (.slice (some ⟨w.heap.size, 0, none⟩) 3 3)) (w.alloc (.cells #[.int .i64 a, .int .i64 b, .int .i64 c] 3)) := by
  unfold execOp
  rw [ho]
  go_simp
theorem cat_arr (a b : List UInt8) : (⟨a.toArray⟩ : ByteArray) ++ ⟨b.toArray⟩ = ⟨(a ++ b).toArray⟩ := by
  apply ByteArray.ext
  show ((⟨a.toArray⟩ : ByteArray) ++ ⟨b.toArray⟩).data = _
  rw [ByteArray.data_append]
  simp
set_option maxRecDepth 10000 in
set_option maxHeartbeats 4000000 in
theorem rencode_any (h c : Int) (v : Value) (l : List RW.Ln) (hl : l.length ≤ 100000) (w : World) (hv : LnsV w v l) :
    Calls Try.prog 21 #[.agg #[.int .i64 h, .int .i64 c, v]] w fun e w' => e = .returned (RW.encRes (h, c, l)) ∧ Below w.heap.size w w' := by
  have hvH := hide hv
  have hlH := hide hl
  obtain ⟨a, ca, rfl, hca, ha⟩ := hv
  obtain ⟨n, hn⟩ : ∃ n, n = l.length := ⟨_, rfl⟩
  obtain ⟨B, hBe⟩ : ∃ B, B = w.heap.size := ⟨_, rfl⟩
  rw [← hn] at hl hvH
  rw [← hn]
  have hnH := hide hn
  have haH := hide ha
  have hBH := hide hBe
  have hA0 := hide (alloc_bel (Below.refl w.heap.size w) (Nat.le_refl _) (.cells #[.int .i64 h, .int .i64 c, .slice a n ca] 39))
  have hs0 := hide (alloc_at1 w (.cells #[.int .i64 h, .int .i64 c, .slice a n ca] 39))
  rw [← hBe] at hA0 hs0 ⊢
  obtain ⟨R, hR⟩ : ∃ R, R = RW.encRes (h, c, l) := ⟨_, rfl⟩
  rw [← hR]
  have hRH := hide hR
  clear ha hn hca hR
  go_enter Try.func21, Try.ntmps21
  go_upto_region 1 with fail
  rw [← hBe]
  refine gen_w (fun W => Below B w W ∧ W.heap[B]? = some (.cells #[.int .i64 h, .int .i64 c, .slice a n ca] 39 (0, 0))) ⟨hA0.out, hs0.out⟩ ?_
  clear hA0 hs0 hBe
  rintro w1 ⟨g1, g2⟩
  have g1H := hide g1
  have g2H := hide g2
  have hi : (Try.prog.info? 39).map (·.size) = some (#[Value.int .i64 h, .int .i64 c, .slice a n ca] : Array Value).size := by kernel_rfl
  obtain ⟨q, hq⟩ : ∃ q, q = RW.valB (h, c, l) := ⟨_, rfl⟩
  have hqH := hide hq
  have hV := hide (rvalid_any h c (.slice a n ca) l (hnH.out ▸ hl) w1 (hvH.out.next (by rw [← hBH.out]; exact g1)))
  rw [← hq] at hV
  clear hq g1
  cases q
  · have hres := hide (show R = .tuple #[.string ⟨#[]⟩, .int .i64 190] by rw [hRH.out]; unfold RW.encRes; rw [← hqH.out, if_neg (by decide)])
    go_wp2_with (first
      | (refine wpList_load_row rfl 39 (.tmp 1) rfl B rfl 39 _ (0, 0) _ g2 Try.underlying39 rfl hi ?_)
      | (go_at_call 38; refine hV.out.mono ?_; rintro e w2 ⟨rfl, hB2⟩; have hB2H := hide hB2; clear hB2))
    go_ret2
    exact ⟨by rw [hres.out] <;> rfl, g1H.out.trans (hB2H.out.mono (by have := g1H.out.size; have := (Array.getElem?_eq_some_iff.1 g2H.out).1; omega))⟩
  · have hres := hide (show R = .tuple #[.string ⟨(RW.encS (h, c, l)).toArray⟩, .int .i64 0] by rw [hRH.out]; unfold RW.encRes; rw [← hqH.out, if_pos rfl])
    have hfac := hide (RW.valB_facts hqH.out.symm)
    go_upto_region 4 with (first
      | (refine wpList_load_row rfl 39 (.tmp 1) rfl B rfl 39 _ (0, 0) _ g2 Try.underlying39 rfl hi ?_)
      | (go_at_call 38; refine hV.out.mono ?_; rintro e w2 ⟨rfl, hB2⟩; have hB2H := hide hB2; clear hB2))
    have hlt := hide (Array.getElem?_eq_some_iff.1 g2H.out).1
    obtain ⟨B5, hB5⟩ : ∃ b, b = w2.heap.size := ⟨_, rfl⟩
    have hBb := hide (show B < B5 by rw [hB5]; have := hlt.out; have := hB2H.out.size; omega)
    have hBw2 := hide (show Below B w w2 from g1H.out.trans (hB2H.out.mono (Nat.le_of_lt hlt.out)))
    have hg2' := hide ((hB2H.out.block _ hlt.out).trans g2H.out)
    have hB5H := hide hB5
    have hst := hide (fun W (hW : Below B5 w2 W) => (hW.block B hBb.out).trans hg2'.out)
    have hsz := hide (fun W (hW : Below B5 w2 W) => (show B5 ≤ W.heap.size by rw [hB5]; exact (hB5 ▸ hW).size))
    have hrow := hide (fun W (hW : Below B5 w2 W) j (x : RW.Ln) (hx : l[j]? = some x) => (show ∃ bb o, a = some ⟨bb, o, none⟩ ∧ W.rangeAt bb (o + j * 3) (RW.lnl x) from by
      obtain ⟨bb, o, rfl, hbb, hc⟩ := haH.out.resolve_left (by rintro rfl; simp at hx)
      exact ⟨bb, o, rfl, fun i u hu => (World.cell?_of_block (a := ⟨bb, o + j * 3 + i, none⟩) ((hW.block bb (Nat.lt_trans (by rw [hBH.out]; exact hbb) hBb.out)).trans (hBw2.out.block bb (by rw [hBH.out]; exact hbb)))).trans (hc j _ hx i u hu)⟩))
    have e0 : w2.cell? ⟨B, 0, none⟩ = some (.int .i64 h) := cellAt hg2'.out 0
    have e1 : w2.cell? ⟨B, 1, none⟩ = some (.int .i64 c) := cellAt hg2'.out 1
    have e2 : w2.cell? ⟨B, 2, none⟩ = some (.slice a n ca) := cellAt hg2'.out 2
    have hI0 := hide (ints_lit w2 h c n (Nat.le_of_eq hB5))
    have hA2 := hide (show Below B5 w2 (w2.alloc (.cells #[.int .i64 h, .int .i64 c, .int .i64 n] 3)) from hB5 ▸ alloc_bel (Below.refl w2.heap.size w2) (Nat.le_refl _) _)
    have hn0 := hide (show n ≤ 1200 by rw [hnH.out]; exact hfac.out.2.2)
    have hn1 := hn0.out
    clear hV g2 g2H g1H hi hB2H hB5
    have e2' : (w2.alloc (.cells #[.int .i64 h, .int .i64 c, .int .i64 n] 3)).cell? ⟨B, 2, none⟩ = some (.slice a n ca) := cellAt (hst.out _ hA2.out) 2
    go_wp2
    go_loopw [5, 6] (fun o i wr => ∃ j : Nat, i = .int .i64 j ∧ j ≤ n ∧ Hid (IntsO wr B5 o ([h, c, (n : Int)] ++ RW.flatZ (l.take j)) ∧ Below B5 w2 wr)) (fun _ i _ => n - (intOf i).toNat)
    case atStart => exact ⟨0, rfl, Nat.zero_le _, by rw [List.take_zero]; simpa [RW.flatZ] using hI0.out, hA2.out⟩
    case round =>
      obtain ⟨j, rfl, hj, hQ⟩ := hrel
      obtain ⟨wo, hwo⟩ : ∃ wo, wo = wr := ⟨_, rfl⟩
      subst hwo
      have hI := hide hQ.out.1
      have hBo := hide hQ.out.2
      clear hQ e0 e1 e2 e2' hI0 hA2
      obtain ⟨vu, hvu⟩ : ∃ x, x = u5 := ⟨_, rfl⟩
      subst hvu
      have e2 : wo.cell? ⟨B, 2, none⟩ = some (.slice a n ca) := cellAt (hst.out wo hBo.out) 2
      by_cases hlt : j < n
      · obtain ⟨⟨x0, x1, x2⟩, hx⟩ : ∃ x, l[j]? = some x := ⟨_, List.getElem?_eq_getElem (by rw [← hnH.out]; exact hlt)⟩
        obtain ⟨bb, o, rfl, _⟩ := hrow.out wo hBo.out j _ hx
        have hrg := hide (fun W (hW : Below B5 w2 W) => (show W.rangeAt bb (o + j * 3) (RW.lnl (x0, x1, x2)) from by
          obtain ⟨bb', o', e, hr⟩ := hrow.out W hW j _ hx
          cases e
          exact hr))
        have htk := hide (show [h, c, (n : Int)] ++ RW.flatZ (l.take (j + 1)) = ([h, c, (n : Int)] ++ RW.flatZ (l.take j)) ++ [x0, x1, x2] by rw [List.take_add_one, hx, Option.toList_some, RW.flatZ_snoc, List.append_assoc])
        have hlen := hide (show ([h, c, (n : Int)] ++ RW.flatZ (l.take j)).length ≤ 10000 by
          have h2 := RW.flatZ_len (l.take j)
          rw [List.length_take] at h2
          rw [List.length_append]
          have := hn0.out
          have h3 : [h, c, (n : Int)].length = 3 := rfl
          omega)
        have hcb := hide (fun W (hW : Below B5 w2 W) => (show W.cell? ⟨B, 2, none⟩ = some (.slice (some ⟨bb, o, none⟩) n ca) from cellAt (hst.out W hW) 2))
        have hltH := hide hlt
        obtain ⟨Z, hZ⟩ : ∃ Z, Z = [h, c, (n : Int)] ++ RW.flatZ (l.take j) := ⟨_, rfl⟩
        rw [← hZ] at hI htk hlen
        clear hx hZ
        go_upto_region 8 with fail
        refine wp_region_k (fun _ W => Below B5 w2 W) (fun W => IntsO W B5 vu Z) [19, 20] (.op 0 (.op 1 (.op 2 (.op 3 (.op 4 (.op 5 (.op 6 (.op 7 (.op 8 (.op 9 (.op 10 (.op 11 (.op 12 (.op 13 (.op 14 (.op 15 (.op 16 (.op 17 (.op 18 (.op 19 (.op 20 (.op 21 .nil)))))))))))))))))))))) (by kernel_rfl) (by kernel_rfl) (by rfl) (by kernel_rfl) hBo.out.drew (hI.out.next (Below.refl wo.heap.size wo).drew) ?_
        refine k_val (vu) (by apply opN; repeat' (first | apply OpAt.z | apply OpAt.s)) (by rfl) (by rfl) (fun _ W hS => op_mv rfl rfl) ?_
        simp only [Act.put, List.setIfInBounds_toArray, List.set_cons_zero, List.set_cons_succ]
        refine k_val (.pointer (some ⟨B, 2, none⟩)) (by apply opN; repeat' (first | apply OpAt.z | apply OpAt.s)) (by rfl) (by rfl) (fun _ W hS => op_fa rfl rfl (fa_st2 W)) ?_
        simp only [Act.put, List.setIfInBounds_toArray, List.set_cons_zero, List.set_cons_succ]
        refine k_val (.slice (some ⟨bb, o, none⟩) n ca) (by apply opN; repeat' (first | apply OpAt.z | apply OpAt.s)) (by rfl) (by rfl) (fun _ W hS => op_ld rfl rfl (lsl_ld (hcb.out W hS))) ?_
        simp only [Act.put, List.setIfInBounds_toArray, List.set_cons_zero, List.set_cons_succ]
        refine k_val (.int .i64 (j : Int)) (by apply opN; repeat' (first | apply OpAt.z | apply OpAt.s)) (by rfl) (by rfl) (fun _ W hS => op_mv rfl rfl) ?_
        simp only [Act.put, List.setIfInBounds_toArray, List.set_cons_zero, List.set_cons_succ]
        refine k_val (.pointer (some ⟨bb, o + j * 3, none⟩)) (by apply opN; repeat' (first | apply OpAt.z | apply OpAt.s)) (by rfl) (by rfl) (fun _ W hS => op_ix rfl rfl rfl (ix_ln hltH.out W)) ?_
        simp only [Act.put, List.setIfInBounds_toArray, List.set_cons_zero, List.set_cons_succ]
        refine k_val (.pointer (some ⟨bb, o + j * 3, none⟩)) (by apply opN; repeat' (first | apply OpAt.z | apply OpAt.s)) (by rfl) (by rfl) (fun _ W hS => op_fa rfl rfl (fa_ln0 W)) ?_
        simp only [Act.put, List.setIfInBounds_toArray, List.set_cons_zero, List.set_cons_succ]
        refine k_val (.int .i64 x0) (by apply opN; repeat' (first | apply OpAt.z | apply OpAt.s)) (by rfl) (by rfl) (fun _ W hS => op_ld rfl rfl (int_ld (hrg.out W hS 0 _ rfl))) ?_
        simp only [Act.put, List.setIfInBounds_toArray, List.set_cons_zero, List.set_cons_succ]
        refine k_val (.pointer (some ⟨B, 2, none⟩)) (by apply opN; repeat' (first | apply OpAt.z | apply OpAt.s)) (by rfl) (by rfl) (fun _ W hS => op_fa rfl rfl (fa_st2 W)) ?_
        simp only [Act.put, List.setIfInBounds_toArray, List.set_cons_zero, List.set_cons_succ]
        refine k_val (.slice (some ⟨bb, o, none⟩) n ca) (by apply opN; repeat' (first | apply OpAt.z | apply OpAt.s)) (by rfl) (by rfl) (fun _ W hS => op_ld rfl rfl (lsl_ld (hcb.out W hS))) ?_
        simp only [Act.put, List.setIfInBounds_toArray, List.set_cons_zero, List.set_cons_succ]
        refine k_val (.int .i64 (j : Int)) (by apply opN; repeat' (first | apply OpAt.z | apply OpAt.s)) (by rfl) (by rfl) (fun _ W hS => op_mv rfl rfl) ?_
        simp only [Act.put, List.setIfInBounds_toArray, List.set_cons_zero, List.set_cons_succ]
        refine k_val (.pointer (some ⟨bb, o + j * 3, none⟩)) (by apply opN; repeat' (first | apply OpAt.z | apply OpAt.s)) (by rfl) (by rfl) (fun _ W hS => op_ix rfl rfl rfl (ix_ln hltH.out W)) ?_
        simp only [Act.put, List.setIfInBounds_toArray, List.set_cons_zero, List.set_cons_succ]
        refine k_val (.pointer (some ⟨bb, o + j * 3 + 1, none⟩)) (by apply opN; repeat' (first | apply OpAt.z | apply OpAt.s)) (by rfl) (by rfl) (fun _ W hS => op_fa rfl rfl (fa_ln1 W)) ?_
        simp only [Act.put, List.setIfInBounds_toArray, List.set_cons_zero, List.set_cons_succ]
        refine k_val (.int .i64 x1) (by apply opN; repeat' (first | apply OpAt.z | apply OpAt.s)) (by rfl) (by rfl) (fun _ W hS => op_ld rfl rfl (int_ld (hrg.out W hS 1 _ rfl))) ?_
        simp only [Act.put, List.setIfInBounds_toArray, List.set_cons_zero, List.set_cons_succ]
        refine k_val (.pointer (some ⟨B, 2, none⟩)) (by apply opN; repeat' (first | apply OpAt.z | apply OpAt.s)) (by rfl) (by rfl) (fun _ W hS => op_fa rfl rfl (fa_st2 W)) ?_
        simp only [Act.put, List.setIfInBounds_toArray, List.set_cons_zero, List.set_cons_succ]
        refine k_val (.slice (some ⟨bb, o, none⟩) n ca) (by apply opN; repeat' (first | apply OpAt.z | apply OpAt.s)) (by rfl) (by rfl) (fun _ W hS => op_ld rfl rfl (lsl_ld (hcb.out W hS))) ?_
        simp only [Act.put, List.setIfInBounds_toArray, List.set_cons_zero, List.set_cons_succ]
        refine k_val (.int .i64 (j : Int)) (by apply opN; repeat' (first | apply OpAt.z | apply OpAt.s)) (by rfl) (by rfl) (fun _ W hS => op_mv rfl rfl) ?_
        simp only [Act.put, List.setIfInBounds_toArray, List.set_cons_zero, List.set_cons_succ]
        refine k_val (.pointer (some ⟨bb, o + j * 3, none⟩)) (by apply opN; repeat' (first | apply OpAt.z | apply OpAt.s)) (by rfl) (by rfl) (fun _ W hS => op_ix rfl rfl rfl (ix_ln hltH.out W)) ?_
        simp only [Act.put, List.setIfInBounds_toArray, List.set_cons_zero, List.set_cons_succ]
        refine k_val (.pointer (some ⟨bb, o + j * 3 + 2, none⟩)) (by apply opN; repeat' (first | apply OpAt.z | apply OpAt.s)) (by rfl) (by rfl) (fun _ W hS => op_fa rfl rfl (fa_ln2 W)) ?_
        simp only [Act.put, List.setIfInBounds_toArray, List.set_cons_zero, List.set_cons_succ]
        refine k_val (.int .i64 x2) (by apply opN; repeat' (first | apply OpAt.z | apply OpAt.s)) (by rfl) (by rfl) (fun _ W hS => op_ld rfl rfl (int_ld (hrg.out W hS 2 _ rfl))) ?_
        simp only [Act.put, List.setIfInBounds_toArray, List.set_cons_zero, List.set_cons_succ]
        refine k_step (fun K' u => ∃ g, u = .slice (some ⟨g, 0, none⟩) 3 3 ∧ K' = fun W => RowV 1 encI W (.slice (some ⟨g, 0, none⟩) 3 3) [x0, x1, x2] ∧ IntsO W B5 vu Z) (by apply opN; repeat' (first | apply OpAt.z | apply OpAt.s)) (by rfl) (by rfl) (by rfl) (fun W hC hK => ?_) ?_
        · have hs5 := hsz.out _ hC
          exact xup_val (op_bs3 rfl rfl rfl rfl) ⟨alloc_bel hC (Nat.le_of_eq hB5H.out) _, _, ⟨(ints_lit W x0 x1 x2 hs5).row, hK.next (alloc_bel (Below.refl _ _) (Nat.le_refl _) _)⟩, _, rfl, rfl⟩
        rintro _ _ ⟨g, rfl, rfl⟩
        simp only [Act.put, List.setIfInBounds_toArray, List.set_cons_zero, List.set_cons_succ]
        refine k_step (fun K' u => ∃ v2, u = v2 ∧ K' = fun W => IntsO W B5 v2 (Z ++ [x0, x1, x2])) (by apply opN; repeat' (first | apply OpAt.z | apply OpAt.s)) (by rfl) (by rfl) (by rfl) (fun W hC hK => ?_) ?_
        · have hs5 := hsz.out _ hC
          obtain ⟨v2, W2, hrun, ho2, hb2⟩ := hK.2.appR hK.1 (by have := hlen.out; simp; omega) hs5
          exact xup_val (op_app rfl rfl rfl hrun) ⟨hC.trans hb2, _, ho2, _, rfl, rfl⟩
        rintro _ v2 ⟨_, rfl, rfl⟩
        simp only [Act.put, List.setIfInBounds_toArray, List.set_cons_zero, List.set_cons_succ]
        refine k_val (v2) (by apply opN; repeat' (first | apply OpAt.z | apply OpAt.s)) (by rfl) (by rfl) (fun _ W hS => op_asg rfl rfl) ?_
        simp only [Act.put, List.setIfInBounds_toArray, List.set_cons_zero, List.set_cons_succ]
        refine k_nil ?_
        intro W hC hK
        have hRI := hide hK
        have hRB := hide hC
        clear hC hK
        go_wp2
        go_roundw
        case rel => exact ⟨j + 1, by go_num, by omega, by rw [htk.out]; exact hRI.out, hRB.out⟩
        case measure => simp [intOf]; omega
      · obtain rfl : n = j := by omega
        obtain ⟨Z, hZ⟩ : ∃ Z, Z = RW.stN (h, c, l) := ⟨_, rfl⟩
        have hI2 := hide (show RowV 1 encI wo _ Z by
          have h1 := hI.out.row
          rw [List.take_of_length_le (by rw [← hnH.out]; exact Nat.le_refl _)] at h1
          rw [hZ]
          unfold RW.stN
          rw [hnH.out] at h1
          exact h1)
        have hZl := hide (show Z.length ≤ 4000 by
          rw [hZ]
          unfold RW.stN
          rw [List.length_cons, List.length_cons, List.length_cons, RW.flatZ_len]
          have := hn0.out
          have := hnH.out
          show 3 * l.length + 1 + 1 + 1 ≤ 4000
          omega)
        have hZo := hide (show ∀ x ∈ Z, RW.okI x by rw [hZ]; exact hfac.out.1)
        have hZe := hide (show RW.encS (h, c, l) = RW.encL Z by rw [hZ]; rfl)
        have hres := hide (show R = .tuple #[.string ⟨(RW.encL Z).toArray⟩, .int .i64 0] by rw [hres.out, hZe.out])
        obtain ⟨az, cz, hue, _, haz⟩ := hI2.out
        obtain ⟨m, hm⟩ : ∃ m, m = Z.length := ⟨_, rfl⟩
        rw [← hm] at hue
        subst hue
        have hmH := hide hm
        have hazH := hide haz
        have hm1 : m ≤ 4000 := by rw [hm]; exact hZl.out
        obtain ⟨W6, hW6⟩ : ∃ x, x = wo.heap.size := ⟨_, rfl⟩
        have hW6H := hide hW6
        clear hm haz hI2 hI hZ hW6
        go_wp2
        go_loopw [7, 8] (fun s i wr => ∃ (j : Nat) (t : List UInt8), i = .int .i64 j ∧ s = .string ⟨t.toArray⟩ ∧ j ≤ m ∧ Hid (t = RW.encL (Z.take j) ∧ Below wo.heap.size wo wr)) (fun _ i _ => m - (intOf i).toNat)
        case atStart => exact ⟨0, [], rfl, rfl, Nat.zero_le _, by simp [RW.encL], Below.refl _ _⟩
        case round =>
          obtain ⟨j, t, rfl, rfl, hj2, hQ⟩ := hrel
          obtain ⟨wi, hwi⟩ : ∃ wo, wo = wr := ⟨_, rfl⟩
          subst hwi
          have ht := hide hQ.out.1
          have hBi := hide hQ.out.2
          clear hQ e2
          by_cases hjm : j < m
          · obtain ⟨x, hx⟩ : ∃ x, Z[j]? = some x := ⟨_, List.getElem?_eq_getElem (by rw [← hmH.out]; exact hjm)⟩
            obtain ⟨b, o, rfl, hb, hc⟩ := hazH.out.resolve_left (by rintro rfl; simp at hx)
            have g0 : wi.cell? ⟨b, o + j, none⟩ = some (.int .i64 x) := (World.cell?_of_block (a := ⟨b, o + j, none⟩) (hBi.out.block _ hb)).trans (ints_cell hc hx)
            have hok := hZo.out x (List.mem_of_getElem? hx)
            have hP := hide (rputint x hok.1 hok.2 wi)
            obtain ⟨P, hPe⟩ : ∃ P, P = RW.putI x := ⟨_, rfl⟩
            have hPl : P.length ≤ 10 := by rw [hPe]; exact RW.putI_len _
            rw [← hPe] at hP
            have htl : t.length ≤ 40000 := by
              have h1 := RW.encL_len (Z.take j)
              rw [← ht.out, List.length_take] at h1
              have := hmH.out
              omega
            have htk := hide (show t ++ P = RW.encL (Z.take (j + 1)) by rw [List.take_add_one, hx, Option.toList_some, RW.encL_append, ← ht.out, hPe]; simp [RW.encL])
            have hadd : (⟨t.toArray⟩ : ByteArray).size + (⟨P.toArray⟩ : ByteArray).size ≤ 9223372036854775807 := by rw [RW.size_arr, RW.size_arr]; omega
            clear hx hb hc hPe hok hPl htl
            go_wp2_with (go_at_call 39; refine hP.out.mono ?_; rintro e w7 ⟨rfl, hB7⟩; have hB7H := hide hB7; clear hB7)
            go_roundw
            case rel => exact ⟨j + 1, t ++ P, by go_num, congrArg Value.string (cat_arr t P), by omega, htk.out, hBi.out.trans (hB7H.out.mono hBi.out.size)⟩
            case measure => simp [intOf]; omega
          · obtain rfl : m = j := by omega
            have hte := hide (show t = RW.encL Z by rw [ht.out, List.take_of_length_le (by rw [← hmH.out]; exact Nat.le_refl _)])
            go_wp2
            go_ret2
            exact ⟨by rw [hte.out, hres.out] <;> rfl, hBw2.out.trans ((hBo.out.trans (hBi.out.mono (hsz.out _ hBo.out))).mono (Nat.le_of_lt hBb.out))⟩
end Go.Proofs.Ytillplhadimgmaa

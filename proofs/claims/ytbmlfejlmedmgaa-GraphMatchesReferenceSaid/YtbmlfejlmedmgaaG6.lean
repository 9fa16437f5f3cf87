/-
  Package graph: Cluster: what it returns; only new memory is written.
-/
import Derived.Test.YtbmlfejlmedmgaaG5
namespace Go.Proofs.Ytbmlfejlmedmgaa
open Go.RowKit RG
theorem IntsO.appNew {W : World} {B : Nat} {v : Value} {l : List Int} (h : IntsO W B v l) (x : Int) (hl : l.length ≤ 1000000) (hB : B ≤ W.heap.size) :
    ∃ v' W', (Builtin.append_ #[27, 27] 27 #[v, .slice (some ⟨W.heap.size, 0, none⟩) 1 1]).run Try.prog (W.alloc (.cells #[.int .i64 x] 3)) = .ok v' W' ∧ IntsO W' B v' (l ++ [x]) ∧ Below B W W' := by
  have hA := alloc_bel (Below.refl W.heap.size W) (Nat.le_refl _) (.cells #[.int .i64 x] 3)
  have h1 : IntsO (W.alloc (.cells #[.int .i64 x] 3)) B v l := own_keep h fun g hg => hA.block _ (own_block h hg).2.1
  obtain ⟨v', W', g1, g2, g3, _⟩ := h1.app1 x hl (Nat.le_trans hB hA.size) (alloc_at1 W (.cells #[.int .i64 x] 3))
  exact ⟨v', W', g1, g2, (hA.mono hB).trans (g3.below (fun k hk => (own_block h1 hk).1) (Nat.le_trans hB hA.size))⟩
theorem IntsO.next {W W' : World} {B : Nat} {v : Value} {l : List Int} (h : IntsO W B v l) (hB : Below W.heap.size W W') : IntsO W' B v l := own_keep h fun g hg => hB.block _ (own_block h hg).2.1
/-- what a call that uses clusters must not touch lies below B2 -/
structure Und (B2 cb mb rb : Nat) (va vd : Value) : Prop where
  c : cb < B2
  m : mb < B2
  r : rb < B2
  a : ∀ g, va.ownBlock = some g → g < B2
  d : ∀ g, vd.ownBlock = some g → g < B2
theorem Cl0.und {W W' : World} {B B2 cb mb rb : Nat} {ra rd va vd : Value} {R : RW.Nd → RW.Nd} {A D : List Int} (h : Cl0 W B cb mb ra rd va vd R A D) (u : Und B2 cb mb rb va vd) (hB : Below B2 W W') : Cl0 W' B cb mb ra rd va vd R A D :=
  ⟨(hB.block _ u.c).trans h.row, h.fo.keep (hB.block _ u.m), own_keep h.oa fun g hg => hB.block _ (u.a g hg), own_keep h.od fun g hg => hB.block _ (u.d g hg), h.ne, h.hb, h.hm⟩
/-- the state of Cluster's loops -/
structure CuS (W : World) (B B2 cb mb rb : Nat) (va vd : Value) (R : RW.Nd → RW.Nd) (A D : List Int) (r : RW.Nd) : Prop where
  cl : Cl0 W B cb mb va vd va vd R A D
  nd : NdA W rb r
  un : Und B2 cb mb rb va vd
  sz : B2 ≤ W.heap.size
theorem CuS.next {W W' : World} {B B2 cb mb rb : Nat} {va vd : Value} {R : RW.Nd → RW.Nd} {A D : List Int} {r : RW.Nd} (h : CuS W B B2 cb mb rb va vd R A D r) (hB : Below B2 W W') : CuS W' B B2 cb mb rb va vd R A D r :=
  ⟨h.cl.und h.un hB, (hB.block _ h.un.r).trans h.nd, h.un, Nat.le_trans h.sz hB.size⟩
theorem CuS.bel {W : World} {B B2 cb mb rb : Nat} {va vd : Value} {R : RW.Nd → RW.Nd} {A D : List Int} {r : RW.Nd} (h : CuS W B B2 cb mb rb va vd R A D r) : B ≤ B2 := Nat.le_trans h.cl.hb (Nat.le_of_lt h.un.c)
theorem CuS.find {W W' : World} {B B2 cb mb rb : Nat} {va vd acc : Value} {R : RW.Nd → RW.Nd} {A D L : List Int} {r : RW.Nd} (h : CuS W B B2 cb mb rb va vd R A D r) (hF : FoA W' mb R) (hC : ChgS (fun j => j = mb) W W') : CuS W' B B2 cb mb rb va vd R A D r :=
  ⟨h.cl.forest hF hC, h.nd.chg hC (h.cl.fo.cells h.nd), h.un, Nat.le_trans h.sz hC.size⟩
theorem CuS.acc {W W' : World} {B B2 cb mb rb : Nat} {va vd acc : Value} {R : RW.Nd → RW.Nd} {A D L : List Int} {r : RW.Nd} (h : CuS W B B2 cb mb rb va vd R A D r) (ho : IntsO W B2 acc L) (hC : ChgS (fun j => j = mb) W W') : IntsO W' B2 acc L :=
  own_keep ho fun g hg => hC.block _ (own_block ho hg).2.1 fun e => by
    have := (own_block ho hg).1
    have := h.un.m
    omega
set_option maxRecDepth 10000 in
set_option maxHeartbeats 4000000 in
theorem cluster_any (v : Value) (l : List RW.Ed) (x : Int) (hl : l.length ≤ 1000) (w : World) (hv : RowV 2 RW.edl w v l) :
    Calls Try.prog 11 #[v, .int .i64 x] w fun e w' => ∃ u1 u2, e = .returned (.tuple #[u1, u2]) ∧ RowV 1 encI w' u1 (RW.cAcc l x) ∧ RowV 1 encI w' u2 (RW.cDev l x) ∧ Below w.heap.size w w' := by
  have hO := hide (of_any v l hl w hv)
  have hA1 := hide (show (RW.accs l).length ≤ 1000000 by have := RW.asc_len (l.map (·.1)); rw [List.length_map] at this; unfold RW.accs; omega)
  have hD1 := hide (show (RW.devs l).length ≤ 1000000 by have := RW.asc_len (l.map (·.2)); rw [List.length_map] at this; unfold RW.devs; omega)
  obtain ⟨av, cv, rfl, _, _⟩ := hv
  obtain ⟨n, hn⟩ : ∃ n, n = l.length := ⟨_, rfl⟩
  rw [← hn] at hO ⊢
  obtain ⟨R, hR⟩ : ∃ R, R = RW.rOf l := ⟨_, rfl⟩
  obtain ⟨A, hA⟩ : ∃ A, A = RW.accs l := ⟨_, rfl⟩
  obtain ⟨D, hD⟩ : ∃ D, D = RW.devs l := ⟨_, rfl⟩
  rw [← hR, show RW.asc (l.map (·.1)) = A from hA.symm, show RW.asc (l.map (·.2)) = D from hD.symm] at hO
  rw [← hA] at hA1
  rw [← hD] at hD1
  have hq1 := hide (show RW.cAcc l x = if A.contains x = true then A.filter (fun y => decide (R (false, y) = R (false, x))) else [] by rw [hR, hA]; rfl)
  have hq2 := hide (show RW.cDev l x = if A.contains x = true then D.filter (fun y => decide (R (true, y) = R (false, x))) else [] by rw [hR, hA, hD]; rfl)
  obtain ⟨B, hB⟩ : ∃ B, B = w.heap.size := ⟨_, rfl⟩
  rw [← hB] at hO ⊢
  obtain ⟨Y1, hY1⟩ : ∃ Y, Y = RW.cAcc l x := ⟨_, rfl⟩
  obtain ⟨Y2, hY2⟩ : ∃ Y, Y = RW.cDev l x := ⟨_, rfl⟩
  rw [← hY1] at hq1 ⊢
  rw [← hY2] at hq2 ⊢
  clear hl hn hR hA hD hB hY1 hY2
  obtain ⟨c, hc⟩ : ∃ c, c = A.contains x := ⟨_, rfl⟩
  have hcH := hide hc
  clear hc
  go_enter Try.func11, Try.ntmps11
  go_upto_region 2 with (go_at_call 22; refine hO.out.mono ?_; rintro e w1 ⟨cb, mb, va, vd, rfl, h1, h2⟩; have h1H := hide h1; have h2H := hide h2; clear h1 h2)
  obtain ⟨aa, ca, hva⟩ := h1H.out.oa.form
  obtain ⟨ad, cd, hvd⟩ := h1H.out.od.form
  subst hva hvd
  have k1 : w1.cell? ⟨cb, 1, none⟩ = some (.slice aa A.length ca) := h1H.out.cell.2.1
  have k0 : w1.cell? ⟨cb, 0, none⟩ = some (.map (some mb)) := h1H.out.cell.1
  have hCt := hide (contains_any _ A x hA1.out w1 h1H.out.oa.row)
  rw [← hcH.out] at hCt
  cases c
  · rw [← hcH.out, if_neg Bool.false_ne_true] at hq1 hq2
    go_wp2_with (go_at_call 23; refine hCt.out.mono ?_; rintro e w' ⟨rfl, rfl⟩)
    refine bodyPost_ret (results_tmp2 rfl _ _ _) rfl ⟨_, _, rfl, ?_, ?_, h2H.out⟩
    · rw [hq1.out]; exact RowV.nil _
    · rw [hq2.out]; exact RowV.nil _
  · rw [← hcH.out, if_pos rfl] at hq1 hq2
    obtain ⟨⟨rd, rn⟩, hr⟩ : ∃ r, r = R (false, x) := ⟨_, rfl⟩
    have hFi := hide (find_any h1H.out.fo (false, x))
    rw [← hr] at hFi hq1 hq2
    have hFi' := hide (show Calls Try.prog 24 #[.agg #[.map (some mb)], .agg #[.bool false, .int .i64 x]] w1 fun e w' => e = .returned (.agg #[.bool rd, .int .i64 rn]) ∧ FoA w' mb R ∧ ChgS (fun j => j = mb) w1 w' from hFi.out)
    clear hFi hr hcH
    go_upto_region 5 with (first
      | (go_at_call 23; refine hCt.out.mono ?_; rintro e w' ⟨rfl, rfl⟩)
      | (go_at_call 24; refine hFi'.out.mono ?_; rintro e w3 ⟨rfl, g1, g2⟩; have hg := hide (h1H.out.forest g1 g2); have hgB := hide (h2H.out.trans (h1H.out.bel g2 fun j e => .inr (.inl e))); clear g1 g2))
    refine gen_w (fun W => CuS W B W.heap.size cb mb w3.heap.size (.slice aa A.length ca) (.slice ad D.length cd) R A D (rd, rn) ∧ Below B w W) ?_ ?_
    · have hA3 := alloc_bel (Below.refl w3.heap.size w3) (Nat.le_refl _) (.cells #[.bool rd, .int .i64 rn] 51)
      have hN := hg.out.next hA3
      refine ⟨⟨hN, alloc_at1 _ _, ⟨hN.lt.1, hN.lt.2, by simp, fun g hg => (own_block hN.oa hg).2.1, fun g hg => (own_block hN.od hg).2.1⟩, Nat.le_refl _⟩, hgB.out.trans (hA3.mono (Nat.le_trans hg.out.hb (Nat.le_of_lt hg.out.lt.1)))⟩
    obtain ⟨rb, hrb⟩ : ∃ r, r = w3.heap.size := ⟨_, rfl⟩
    rw [← hrb]
    clear hrb hFi' hCt hg hgB k0 k1 h1H h2H
    rintro w4 ⟨hS0, hB0⟩
    obtain ⟨B2, hB2⟩ : ∃ b, b = w4.heap.size := ⟨_, rfl⟩
    rw [← hB2] at hS0
    clear hB2
    have hS := hide hS0
    have hBw := hide hB0
    have k1 : w4.cell? ⟨cb, 1, none⟩ = some (.slice aa A.length ca) := hS0.cl.cell.2.1
    clear hS0 hB0
    obtain ⟨na, hna⟩ : ∃ n, n = A.length := ⟨_, rfl⟩
    have hnaH := hide hna
    obtain ⟨nD, hnd⟩ : ∃ n, n = D.length := ⟨_, rfl⟩
    have hndH := hide hnd
    rw [← hna] at k1 hS ⊢
    rw [← hnd] at hS
    have hna6 : na ≤ 1000000 := by rw [hna]; exact hA1.out
    have hnd6 : nD ≤ 1000000 := by rw [hnd]; exact hD1.out
    clear hna hnd
    go_wp2
    go_loopw [8, 35] (fun u i wr => ∃ j : Nat, i = .int .i64 j ∧ j ≤ na ∧ Hid (IntsO wr B2 u ((A.take j).filter (fun y => decide (R (false, y) = (rd, rn)))) ∧ CuS wr B B2 cb mb rb (.slice aa na ca) (.slice ad nD cd) R A D (rd, rn) ∧ Below B w wr)) (fun _ i _ => na - (intOf i).toNat)
    case atStart => exact ⟨0, rfl, Nat.zero_le _, IntsO.nil _ _, hS.out, hBw.out⟩
    case round =>
      obtain ⟨j, rfl, hj, hQ⟩ := hrel
      obtain ⟨wo, hwo⟩ : ∃ wo, wo = wr := ⟨_, rfl⟩
      subst hwo
      obtain ⟨hI0, hC0, hB0⟩ := hQ.out
      obtain ⟨au, cu, rfl⟩ := hI0.form
      obtain ⟨nu, hnu⟩ : ∃ n, n = ((A.take j).filter (fun y => decide (R (false, y) = (rd, rn)))).length := ⟨_, rfl⟩
      rw [← hnu] at hI0 ⊢
      have hI := hide hI0
      have hC := hide hC0
      have hB5 := hide hB0
      have hnuH := hide hnu
      clear hQ hI0 hC0 hB0 hnu
      by_cases hjm : j < na
      · obtain ⟨y, hy⟩ : ∃ y, A[j]? = some y := ⟨_, List.getElem?_eq_getElem (by rw [← hnaH.out]; exact hjm)⟩
        have hfs := hide (RW.filter_snoc (fun y => decide (R (false, y) = (rd, rn))) A j y hy)
        have hrow := hC.out.cl.oa.row
        obtain ⟨a0, c0, he0, _, hrow⟩ := hrow
        injection he0 with q1 q2 q3
        subst q1
        subst q3
        clear q2
        obtain ⟨bq, oq, rfl, hbq, hcq⟩ := hrow.resolve_left (by rintro h; rw [h] at hy; simp at hy)
        have k1 : wo.cell? ⟨bq, oq + j, none⟩ = some (.int .i64 y) := ints_cell hcq hy
        clear hbq hcq hy hrow
        go_upto_region 9 with fail
        refine wp_region_k (fun _ W => W.heap[cb]? = some (.cells #[.map (some mb), .slice (some ⟨bq, oq, none⟩) na ca, .slice ad nD cd] 49 (0, 0)) ∧ NdA W rb (rd, rn)) (fun W => CuS W B B2 cb mb rb (.slice (some ⟨bq, oq, none⟩) na ca) (.slice ad nD cd) R A D (rd, rn) ∧ IntsO W B2 (.slice au nu cu) ((A.take j).filter (fun y => decide (R (false, y) = (rd, rn)))) ∧ Below B w W) [6] (.op 0 (.op 1 (.op 2 (.op 3 (.op 4 (.op 5 (.op 7 (.op 6 (.op 8 .nil))))))))) (by kernel_rfl) (by kernel_rfl) (by rfl) (by kernel_rfl) ⟨hC.out.cl.row, hC.out.nd⟩ ⟨hC.out.next (Below.refl _ _).drew, hI.out.next (Below.refl _ _).drew, hB5.out.trans (Below.refl _ _).drew⟩ ?_
        refine k_val (.pointer (some ⟨cb, 0, none⟩)) (by apply opN; repeat' (first | apply OpAt.z | apply OpAt.s)) (by rfl) (by rfl) (fun _ W hS => op_mv rfl rfl) ?_
        simp only [Act.put, List.setIfInBounds_toArray, List.set_cons_zero, List.set_cons_succ]
        refine k_val (.pointer (some ⟨cb, 0, none⟩)) (by apply opN; repeat' (first | apply OpAt.z | apply OpAt.s)) (by rfl) (by rfl) (fun _ W hS => op_nc rfl rfl) ?_
        simp only [Act.put, List.setIfInBounds_toArray, List.set_cons_zero, List.set_cons_succ]
        refine k_val (.pointer (some ⟨cb, 0, none⟩)) (by apply opN; repeat' (first | apply OpAt.z | apply OpAt.s)) (by rfl) (by rfl) (fun _ W hS => op_fa_cl (by decide) rfl rfl) ?_
        simp only [Act.put, List.setIfInBounds_toArray, List.set_cons_zero, List.set_cons_succ]
        refine k_val (.agg #[.map (some mb)]) (by apply opN; repeat' (first | apply OpAt.z | apply OpAt.s)) (by rfl) (by rfl) (fun _ W hS => op_load_fo rfl rfl (cellAt hS.1 0)) ?_
        simp only [Act.put, List.setIfInBounds_toArray, List.set_cons_zero, List.set_cons_succ]
        refine k_val (.int .i64 y) (by apply opN; repeat' (first | apply OpAt.z | apply OpAt.s)) (by rfl) (by rfl) (fun _ W hS => op_mv rfl rfl) ?_
        simp only [Act.put, List.setIfInBounds_toArray, List.set_cons_zero, List.set_cons_succ]
        refine k_val (RW.ndv (false, y)) (by apply opN; repeat' (first | apply OpAt.z | apply OpAt.s)) (by rfl) (by rfl) (fun _ W hS => op_build_na rfl rfl) ?_
        simp only [Act.put, List.setIfInBounds_toArray, List.set_cons_zero, List.set_cons_succ]
        refine k_val (.agg #[.bool rd, .int .i64 rn]) (by apply opN; repeat' (first | apply OpAt.z | apply OpAt.s)) (by rfl) (by rfl) (fun _ W hS => op_load_nd rfl rfl hS.2.c0 hS.2.c1) ?_
        simp only [Act.put, List.setIfInBounds_toArray, List.set_cons_zero, List.set_cons_succ]
        refine k_step (fun K' u => u = RW.ndv (R (false, y)) ∧ K' = fun W => CuS W B B2 cb mb rb (.slice (some ⟨bq, oq, none⟩) na ca) (.slice ad nD cd) R A D (rd, rn) ∧ IntsO W B2 (.slice au nu cu) ((A.take j).filter (fun y => decide (R (false, y) = (rd, rn)))) ∧ Below B w W) (by apply opN; repeat' (first | apply OpAt.z | apply OpAt.s)) (by rfl) (by rfl) (by rfl) (fun W hC hK => ?_) ?_
        · refine op_x2 rfl rfl rfl rfl (fun _ _ => rfl) ((find_any hK.1.cl.fo (false, y)).mono ?_)
          rintro e W' ⟨rfl, h4, h5⟩
          have hN := hK.1.find (acc := .slice au nu cu) (L := []) h4 h5
          exact ⟨_, rfl, ⟨hN.cl.row, hN.nd⟩, _, ⟨hN, hK.1.acc hK.2.1 h5, hK.2.2.trans (hK.1.cl.bel h5 fun j e => .inr (.inl e))⟩, rfl, rfl⟩
        rintro _ _ ⟨rfl, rfl⟩
        simp only [Act.put, List.setIfInBounds_toArray, List.set_cons_zero, List.set_cons_succ]
        refine k_val (.bool (decide (R (false, y) = (rd, rn)))) (by apply opN; repeat' (first | apply OpAt.z | apply OpAt.s)) (by rfl) (by rfl) (fun _ W hS => op_eqn (b := (rd, rn)) rfl rfl rfl) ?_
        simp only [Act.put, List.setIfInBounds_toArray, List.set_cons_zero, List.set_cons_succ]
        refine k_nil ?_
        intro W hC9 hK
        obtain ⟨qq, hqq⟩ : ∃ q, q = decide (R (false, y) = (rd, rn)) := ⟨_, rfl⟩
        rw [← hqq]
        rw [← hqq] at hfs
        have hC7 := hide hK.1
        have hI7 := hide hK.2.1
        have hB7 := hide hK.2.2
        clear hC9 hK hqq hI hB5 k1
        cases qq
        · rw [if_neg Bool.false_ne_true, List.append_nil] at hfs
          go_wp2
          go_roundw
          case rel => exact ⟨j + 1, by go_num, by omega, by rw [hfs.out]; exact hI7.out, hC7.out, hB7.out⟩
          case measure => simp [intOf]; omega
        · rw [if_pos rfl] at hfs
          obtain ⟨v8, w8, hrun, hO8, hB8⟩ := hI7.out.appNew y (by have := hnuH.out; have h2 := List.length_filter_le (fun y => decide (R (false, y) = (rd, rn))) (A.take j); rw [List.length_take] at h2; omega) hC7.out.sz
          have hO8H := hide hO8
          have hC8 := hide (hC7.out.next hB8)
          have hB8H := hide (hB7.out.trans (hB8.mono hC7.out.bel))
          clear hO8 hB8
          go_wp2_with (at_builtin; refine wpList_app_run rfl (.tmp 48) (.tmp 50) rfl rfl rfl hrun ?_)
          go_roundw
          case rel => exact ⟨j + 1, by go_num, by omega, by rw [hfs.out]; exact hO8H.out, hC8.out, hB8H.out⟩
          case measure => simp [intOf]; omega
      · obtain rfl : j = na := by omega
        have htl : A.take j = A := List.take_of_length_le (by rw [← hnaH.out]; exact Nat.le_refl _)
        rw [htl] at hI
        obtain ⟨u1, hu1⟩ : ∃ u, u = Value.slice au nu cu := ⟨_, rfl⟩
        rw [← hu1] at hI
        rw [← hq1.out] at hI
        have hu1H := hide hu1
        clear htl hu1
        obtain ⟨B3, hB3⟩ : ∃ b, b = wo.heap.size := ⟨_, rfl⟩
        have hB3H := hide hB3
        have hC3 := hide (show CuS wo B B3 cb mb rb (.slice aa j ca) (.slice ad nD cd) R A D (rd, rn) from ⟨hC.out.cl, hC.out.nd, ⟨by rw [hB3]; exact hC.out.cl.lt.1, by rw [hB3]; exact hC.out.cl.lt.2, by rw [hB3]; exact hC.out.nd.lt, fun g hg => by rw [hB3]; exact (own_block hC.out.cl.oa hg).2.1, fun g hg => by rw [hB3]; exact (own_block hC.out.cl.od hg).2.1⟩, by rw [hB3]; exact Nat.le_refl _⟩)
        have hIu := hide (fun g (hg : u1.ownBlock = some g) => (show g < B3 ∧ g ≠ mb by rw [hB3]; exact ⟨(own_block hI.out hg).2.1, by have := (own_block hI.out hg).1; have := hC.out.un.m; omega⟩))
        clear hB3
        have k2 : wo.cell? ⟨cb, 2, none⟩ = some (.slice ad nD cd) := hC.out.cl.cell.2.2
        go_wp2
        go_loopw [9, 58] (fun u i wr => ∃ k : Nat, i = .int .i64 k ∧ k ≤ nD ∧ Hid (IntsO wr B3 u ((D.take k).filter (fun y => decide (R (true, y) = (rd, rn)))) ∧ CuS wr B B3 cb mb rb (.slice aa j ca) (.slice ad nD cd) R A D (rd, rn) ∧ IntsO wr B2 u1 Y1 ∧ Below B w wr)) (fun _ i _ => nD - (intOf i).toNat)
        case atStart => exact ⟨0, rfl, Nat.zero_le _, IntsO.nil _ _, hC3.out, hI.out, hB5.out⟩
        case round =>
          obtain ⟨k, rfl, hk, hQ⟩ := hrel
          obtain ⟨wp, hwp⟩ : ∃ wp, wp = wr := ⟨_, rfl⟩
          subst hwp
          obtain ⟨hI0, hC0, hZ0, hB0⟩ := hQ.out
          obtain ⟨au2, cu2, rfl⟩ := hI0.form
          obtain ⟨nu2, hnu2⟩ : ∃ n, n = ((D.take k).filter (fun y => decide (R (true, y) = (rd, rn)))).length := ⟨_, rfl⟩
          rw [← hnu2] at hI0 ⊢
          have hI2 := hide hI0
          have hC2 := hide hC0
          have hB52 := hide hB0
          have hZ := hide hZ0
          clear hZ0
          have hnu2H := hide hnu2
          clear hQ hI0 hC0 hB0 hnu2
          by_cases hkm : k < nD
          · obtain ⟨y, hy⟩ : ∃ y, D[k]? = some y := ⟨_, List.getElem?_eq_getElem (by rw [← hndH.out]; exact hkm)⟩
            have hfs := hide (RW.filter_snoc (fun y => decide (R (true, y) = (rd, rn))) D k y hy)
            have hrow := hC2.out.cl.od.row
            obtain ⟨a0, c0, he0, _, hrow⟩ := hrow
            injection he0 with q1 q2 q3
            subst q1
            subst q3
            clear q2
            obtain ⟨bq, oq, rfl, hbq, hcq⟩ := hrow.resolve_left (by rintro h; rw [h] at hy; simp at hy)
            have k1 : wp.cell? ⟨bq, oq + k, none⟩ = some (.int .i64 y) := ints_cell hcq hy
            clear hbq hcq hy hrow
            go_upto_region 15 with fail
            refine wp_region_k (fun _ W => W.heap[cb]? = some (.cells #[.map (some mb), .slice aa j ca, .slice (some ⟨bq, oq, none⟩) nD cd] 49 (0, 0)) ∧ NdA W rb (rd, rn)) (fun W => CuS W B B3 cb mb rb (.slice aa j ca) (.slice (some ⟨bq, oq, none⟩) nD cd) R A D (rd, rn) ∧ IntsO W B3 (.slice au2 nu2 cu2) ((D.take k).filter (fun y => decide (R (true, y) = (rd, rn)))) ∧ IntsO W B2 u1 Y1 ∧ Below B w W) [6] (.op 0 (.op 1 (.op 2 (.op 3 (.op 4 (.op 5 (.op 7 (.op 6 (.op 8 .nil))))))))) (by kernel_rfl) (by kernel_rfl) (by rfl) (by kernel_rfl) ⟨hC2.out.cl.row, hC2.out.nd⟩ ⟨hC2.out.next (Below.refl _ _).drew, hI2.out.next (Below.refl _ _).drew, hZ.out.next (Below.refl _ _).drew, hB52.out.trans (Below.refl _ _).drew⟩ ?_
            refine k_val (.pointer (some ⟨cb, 0, none⟩)) (by apply opN; repeat' (first | apply OpAt.z | apply OpAt.s)) (by rfl) (by rfl) (fun _ W hS => op_mv rfl rfl) ?_
            simp only [Act.put, List.setIfInBounds_toArray, List.set_cons_zero, List.set_cons_succ]
            refine k_val (.pointer (some ⟨cb, 0, none⟩)) (by apply opN; repeat' (first | apply OpAt.z | apply OpAt.s)) (by rfl) (by rfl) (fun _ W hS => op_nc rfl rfl) ?_
            simp only [Act.put, List.setIfInBounds_toArray, List.set_cons_zero, List.set_cons_succ]
            refine k_val (.pointer (some ⟨cb, 0, none⟩)) (by apply opN; repeat' (first | apply OpAt.z | apply OpAt.s)) (by rfl) (by rfl) (fun _ W hS => op_fa_cl (by decide) rfl rfl) ?_
            simp only [Act.put, List.setIfInBounds_toArray, List.set_cons_zero, List.set_cons_succ]
            refine k_val (.agg #[.map (some mb)]) (by apply opN; repeat' (first | apply OpAt.z | apply OpAt.s)) (by rfl) (by rfl) (fun _ W hS => op_load_fo rfl rfl (cellAt hS.1 0)) ?_
            simp only [Act.put, List.setIfInBounds_toArray, List.set_cons_zero, List.set_cons_succ]
            refine k_val (.int .i64 y) (by apply opN; repeat' (first | apply OpAt.z | apply OpAt.s)) (by rfl) (by rfl) (fun _ W hS => op_mv rfl rfl) ?_
            simp only [Act.put, List.setIfInBounds_toArray, List.set_cons_zero, List.set_cons_succ]
            refine k_val (RW.ndv (true, y)) (by apply opN; repeat' (first | apply OpAt.z | apply OpAt.s)) (by rfl) (by rfl) (fun _ W hS => op_build_nd rfl rfl rfl) ?_
            simp only [Act.put, List.setIfInBounds_toArray, List.set_cons_zero, List.set_cons_succ]
            refine k_val (.agg #[.bool rd, .int .i64 rn]) (by apply opN; repeat' (first | apply OpAt.z | apply OpAt.s)) (by rfl) (by rfl) (fun _ W hS => op_load_nd rfl rfl hS.2.c0 hS.2.c1) ?_
            simp only [Act.put, List.setIfInBounds_toArray, List.set_cons_zero, List.set_cons_succ]
            refine k_step (fun K' u => u = RW.ndv (R (true, y)) ∧ K' = fun W => CuS W B B3 cb mb rb (.slice aa j ca) (.slice (some ⟨bq, oq, none⟩) nD cd) R A D (rd, rn) ∧ IntsO W B3 (.slice au2 nu2 cu2) ((D.take k).filter (fun y => decide (R (true, y) = (rd, rn)))) ∧ IntsO W B2 u1 Y1 ∧ Below B w W) (by apply opN; repeat' (first | apply OpAt.z | apply OpAt.s)) (by rfl) (by rfl) (by rfl) (fun W hC hK => ?_) ?_
            · refine op_x2 rfl rfl rfl rfl (fun _ _ => rfl) ((find_any hK.1.cl.fo (true, y)).mono ?_)
              rintro e W' ⟨rfl, h4, h5⟩
              have hN := hK.1.find (acc := .slice au2 nu2 cu2) (L := []) h4 h5
              exact ⟨_, rfl, ⟨hN.cl.row, hN.nd⟩, _, ⟨hN, hK.1.acc hK.2.1 h5, own_keep hK.2.2.1 (fun g hg => h5.block _ (own_block hK.2.2.1 hg).2.1 (hIu.out g hg).2), hK.2.2.2.trans (hK.1.cl.bel h5 fun j e => .inr (.inl e))⟩, rfl, rfl⟩
            rintro _ _ ⟨rfl, rfl⟩
            simp only [Act.put, List.setIfInBounds_toArray, List.set_cons_zero, List.set_cons_succ]
            refine k_val (.bool (decide (R (true, y) = (rd, rn)))) (by apply opN; repeat' (first | apply OpAt.z | apply OpAt.s)) (by rfl) (by rfl) (fun _ W hS => op_eqn (b := (rd, rn)) rfl rfl rfl) ?_
            simp only [Act.put, List.setIfInBounds_toArray, List.set_cons_zero, List.set_cons_succ]
            refine k_nil ?_
            intro W hC9 hK
            obtain ⟨qq, hqq⟩ : ∃ q, q = decide (R (true, y) = (rd, rn)) := ⟨_, rfl⟩
            rw [← hqq]
            rw [← hqq] at hfs
            have hC7 := hide hK.1
            have hI7 := hide hK.2.1
            have hZ7 := hide hK.2.2.1
            have hB7 := hide hK.2.2.2
            clear hC9 hK hqq hI2 hB52 k1
            cases qq
            · rw [if_neg Bool.false_ne_true, List.append_nil] at hfs
              go_wp2
              go_roundw
              case rel => exact ⟨k + 1, by go_num, by omega, by rw [hfs.out]; exact hI7.out, hC7.out, hZ7.out, hB7.out⟩
              case measure => simp [intOf]; omega
            · rw [if_pos rfl] at hfs
              obtain ⟨v8, w8, hrun, hO8, hB8⟩ := hI7.out.appNew y (by have := hnu2H.out; have h2 := List.length_filter_le (fun y => decide (R (true, y) = (rd, rn))) (D.take k); rw [List.length_take] at h2; omega) hC7.out.sz
              have hO8H := hide hO8
              have hC8 := hide (hC7.out.next hB8)
              have hB8H := hide (hB7.out.trans (hB8.mono hC7.out.bel))
              have hZ8 := hide (own_keep hZ7.out fun g hg => hB8.block g (hIu.out g hg).1)
              clear hO8 hB8
              go_wp2_with (at_builtin; refine wpList_app_run rfl (.tmp 71) (.tmp 73) rfl rfl rfl hrun ?_)
              go_roundw
              case rel => exact ⟨k + 1, by go_num, by omega, by rw [hfs.out]; exact hO8H.out, hC8.out, hZ8.out, hB8H.out⟩
              case measure => simp [intOf]; omega
          · obtain rfl : k = nD := by omega
            have htl : D.take k = D := List.take_of_length_le (by rw [← hndH.out]; exact Nat.le_refl _)
            rw [htl, ← hq2.out] at hI2
            have e1 := hu1H.out
            have r1 := hide (show RowV 1 encI wp (.slice au nu cu) Y1 by rw [← e1]; exact hZ.out.row)
            clear e1 htl
            go_wp2
            exact bodyPost_ret (results_tmp2 rfl _ _ _) rfl ⟨.slice au nu cu, .slice au2 nu2 cu2, rfl, r1.out, hI2.out.row, hB52.out⟩
end Go.Proofs.Ytbmlfejlmedmgaa

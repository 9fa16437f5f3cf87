/-
  Package royaltylaw23: JournalSurvives.
-/
import Derived.Test.YtllbphanfahkkaaGreatDoorJnW
namespace Go.Proofs.YtllbphanfahkkaaGreatDoor
open Go.RowKit RG
/-- what a round of JournalSurvives finds and leaves -/
structure SvR (K : Nat → Int) (B b z db vb jb m j : Nat) (u1 u2 : Value) (w1 W : World) : Prop where
  out : ∃ S rs br was want, JW K B b z db vb jb S rs br w1 W ∧ StrsOwn W B u1 was ∧ StrsOwn W B u2 want ∧ RW.EndP (RW.sha K) z S was want ∧ S.ok z ∧ S.pend.length ≤ 1 ∧ was.length ≤ 2000 ∧ want.length ≤ 2000 ∧ (j < m → j < 8 → RW.JInv (RW.sha K) z S rs ∧ S.left = 0 ∧ br = false)
set_option maxRecDepth 100000 in
set_option maxHeartbeats 8000000 in
theorem survives_any (c d torn : Int) (hc : -9223372036854775808 ≤ c) (hc2 : c ≤ 9223372036854775807) (hd : -9223372036854775808 ≤ d) (hd2 : d ≤ 9223372036854775807) (gv : Value) (ps : List (Value × List ByteArray)) (hpl : ps.length ≤ 9223372036854775807) (kv : Value) (keep : List Int) (hkl : keep.length ≤ 9223372036854775807) (K : Nat → Int) (ks : Array Value) (hks : RW.WsOk ks K) (a : Addr) (w : World) (hps : GrpR w gv ps) (hkp : IntR w kv keep) (hK : KLaid w ks) (hg : w.cell? ⟨1, 0, none⟩ = some (RW.jeW a)) :
    Calls Tryz.prog 5 #[.int .i64 c, gv, .int .i64 d, kv, .int .i64 torn] w fun e w' => e = .returned (.bool true) ∧ Below w.heap.size w w' := by
  obtain ⟨z, hz⟩ : ∃ z : Nat, 1 + RW.pickI c 1500 = (z : Int) := ⟨(1 + RW.pickI c 1500).toNat, by have := RW.pickI_bd c 1500 (by decide); omega⟩
  obtain ⟨kc, hkc, hkc1, hkc3⟩ := RW.pick_nat d 3 (by decide)
  have hzb := hide (show 1 ≤ z ∧ z ≤ 1500 by have := RW.pickI_bd c 1500 (by decide); omega)
  have hSz := hide (fun W => lsize_any c hc hc2 z hz W)
  have hPk := hide (fun W => pick_any d 3 hd hd2 (by decide) (by decide) W)
  obtain ⟨pd, hpd⟩ : ∃ pd, pd = RW.pickI d 3 := ⟨_, rfl⟩
  have hpd1 : 0 ≤ pd := by rw [hpd]; exact (RW.pickI_bd d 3 (by decide)).1
  have hpd2 : pd < 3 := by rw [hpd]; exact (RW.pickI_bd d 3 (by decide)).2
  rw [← hpd] at hPk hkc
  have hkcH := hide hkc
  clear hpd hkc
  have hgl := hide (cell_ltJ hg)
  have hnx0 := hide (fun W (hW : Below w.heap.size w W) => (show KLaid W ks ∧ W.cell? ⟨1, 0, none⟩ = some (RW.jeW a) ∧ GrpR W gv ps ∧ IntR W kv keep from ⟨RW.jklaid hK hW (Nat.le_refl _), (World.cell?_of_block (a := ⟨1, 0, none⟩) (hW.block _ hgl.out)).trans hg, hps.next hW, RowV.next hkp hW⟩))
  have hSn := hide (sane_any K ks hks a w hK hg)
  obtain ⟨ga, gc, egv, _, _⟩ := id hps.1
  subst egv
  obtain ⟨ka, kcap, ekv, _⟩ := id hkp
  subst ekv
  obtain ⟨m, hm⟩ : ∃ m, m = ps.length := ⟨_, rfl⟩
  have hmH := hide hm
  obtain ⟨q, hq⟩ : ∃ q, q = keep.length := ⟨_, rfl⟩
  have hqH := hide hq
  rw [← hm] at hnx0 hpl ⊢
  rw [← hq] at hnx0 hkl ⊢
  clear hK hg hps hkp hz hgl hm hq
  go_enter Tryz.func5, Tryz.ntmps5
  go_upto_region 2 with (go_at_call 9; refine hSn.out.mono ?_; rintro e w1 ⟨rfl, hB1⟩; have hB1H := hide hB1; clear hB1)
  obtain ⟨B, hB⟩ : ∃ B, B = w1.heap.size := ⟨_, rfl⟩
  have hBH := hide hB
  have hwB := hide (show w.heap.size ≤ B by rw [hB]; exact hB1H.out.size)
  have hnx := hide (fun W (hW : Below B w1 W) => hnx0.out W (hB1H.out.trans (hW.mono hwB.out)))
  have hN := hide (new_any z hzb.out.1 (by have := hzb.out.2; omega) w1)
  rw [← hB] at hN
  clear hB hSn hnx0
  go_upto_region 3 with (first
    | (go_at_call 16; refine (hSz.out _).mono ?_; rintro e w' ⟨rfl, rfl⟩)
    | (go_at_call 25; refine hN.out.mono ?_; rintro e w2 ⟨b, rfl, hd1, hB2⟩; obtain ⟨db, vb, hd1⟩ := hd1; have hD2 := hide hd1; have hB2H := hide hB2; clear hd1 hB2))
  have hOp := hide (open_inv hks hD2.out (RW.inv_dk0 z) (hnx.out w2 hB2H.out).1 (hnx.out w2 hB2H.out).2.1)
  go_upto_region 4 with (go_at_call 26; refine hOp.out.mono ?_; rintro e w3 ⟨jb, rfl, h2, ht2⟩; have hJ3 := hide (show JW K B b z db vb jb (RW.dk0 z) [] false w1 w3 from ⟨h2.d, h2.j, hB2H.out.trans h2.bel⟩); clear h2 ht2)
  clear hOp hN hD2 hB2H
  go_wp2
  go_loopw [16, 17, 18] (fun u1 u2 i wr => ∃ (j : Nat), i = .int .i64 j ∧ j ≤ m ∧ j ≤ 8 ∧ Hid (SvR K B b z db vb jb m j u1 u2 w1 wr)) (fun _ _ i _ => 8 - (intOf i).toNat)
  case atStart => exact ⟨0, rfl, Nat.zero_le _, Nat.zero_le _, ⟨⟨RW.dk0 z, [], false, [], [], hJ3.out, strs_nil _ _, strs_nil _ _, RW.EndP.inv (RW.inv_dk0 z), (fun x hx => by cases hx), Nat.zero_le _, Nat.zero_le _, Nat.zero_le _, fun _ _ => ⟨RW.inv_dk0 z, rfl, rfl⟩⟩⟩⟩
  case round =>
    obtain ⟨j, rfl, hj, hj8, hQ⟩ := hrel
    obtain ⟨wo, hwo⟩ : ∃ wo, wo = wr := ⟨_, rfl⟩
    subst hwo
    clear hJ3
    by_cases hjm : j < m
    · by_cases hj7 : j < 8
      · obtain ⟨S, rs, br, was0, want0, hJ, _, _, _, _, _, _, _, hL⟩ := hQ.out.out
        obtain ⟨hI, h0, rfl⟩ := hL hjm hj7
        clear hL
        have hI := hide hI
        have h0 := hide h0
        have hJ := hide hJ
        clear hQ
        obtain ⟨p, hp⟩ : ∃ p, ps[j]? = some p := ⟨_, List.getElem?_eq_getElem (by rw [← hmH.out]; exact hjm)⟩
        obtain ⟨g0, o0, gc', e', _, hpr, hpn⟩ := grp_cell (by have h := (hnx.out wo hJ.out.bel).2.2.1; rw [hmH.out] at h; exact h) hp
        cases e'
        obtain ⟨pv, pl⟩ := p
        obtain ⟨pa, pc, epv, _⟩ := id hpr
        change pv = Value.slice pa pl.length pc at epv
        subst epv
        obtain ⟨pn, hpnE⟩ : ∃ pn, pn = pl.length := ⟨_, rfl⟩
        have hgc := hide (fun W (hW : Below B w1 W) => (show W.cell? ⟨g0, o0 + j, none⟩ = some (.slice pa pn pc) ∧ StrR W (.slice pa pn pc) pl from by
          obtain ⟨g1, o1, c1, e1, h1, h2, _⟩ := grp_cell (by have h := (hnx.out W hW).2.2.1; rw [hmH.out] at h; exact h) hp
          cases e1
          rw [hpnE]
          exact ⟨h1, h2⟩))
        have hpnH := hide hpn
        rw [← hpnE] at hpr
        clear hp hpr hpnE
        obtain ⟨L, hLe⟩ : ∃ L, L = RW.fewL pl := ⟨_, rfl⟩
        have hLl := hide (show L.length ≤ 6 by rw [hLe]; exact RW.fewL_len pl)
        have hLs := hide (show ∀ r ∈ L, r.size ≤ 65536 by rw [hLe]; exact fun r hr => by have := RW.fewL_size pl r hr; omega)
        have hFw := hide (fun W (hW : Below B w1 W) => (show Calls Tryz.prog 12 #[.slice pa pn pc] W fun e w' => ∃ u, e = .returned u ∧ StrsOwn w' W.heap.size u L ∧ Below W.heap.size W w' from by rw [hLe]; exact few_any _ pl W (hgc.out W hW).2 hpnH.out))
        clear hLe
        have hrsl := hide (show rs.length ≤ 1500 by have := RW.stos_ge (RW.sha K) rs RW.z32; have := hI.out.fits; have := hzb.out.2; omega)
        have hRc := hide (hJ.out.records hI.out.fits)
        obtain ⟨N1, hN1⟩ : ∃ N1, N1 = wo.heap.size := ⟨_, rfl⟩
        have hN1B := hide (show B ≤ N1 by rw [hN1]; exact hJ.out.hB)
        rw [← hN1] at hRc
        clear hN1
        obtain ⟨rl, hrl⟩ : ∃ rl, rl = rs.length := ⟨_, rfl⟩
        have hrlH := hide hrl
        clear hrl
        go_upto_region 12 with (go_at_call 20; refine hRc.out.mono ?_; rintro e w4 ⟨uw, rfl, h3, h4, h5⟩; obtain ⟨ua, uc, euw⟩ := own_shape h3; rw [← hrlH.out] at euw; subst euw; have huw := hide (own_base h3 hN1B.out); have hJ4 := hide h4; clear h3 h4 h5)
        clear hRc hJ
        obtain ⟨N, hN⟩ : ∃ N, N = w4.heap.size := ⟨_, rfl⟩
        have hNH := hide hN
        have hb0 := hide (show Below N w4 w4 from Below.refl _ _)
        have hNB := hide (show ∀ W, Below N w4 W → Below B w1 W from fun W h => hJ4.out.bel.trans (h.mono (by rw [hNH.out]; exact hJ4.out.hB)))
        clear hN
        refine wp_region_k (fun _ W => Below N w4 W) (fun W => Below N w4 W) [0, 2, 7, 8] (.op 1 (.op 3 (.op 4 (.op 5 (.op 6 (.op 0 (.op 2 (.op 7 (.op 8 (.op 9 .nil)))))))))) (by kernel_rfl) (by kernel_rfl) (by rfl) (by kernel_rfl) (hb0.out.drew) (hb0.out.drew) ?_
        refine k_val (.slice ua rl uc) (by apply opN; repeat' (first | apply OpAt.z | apply OpAt.s)) (by rfl) (by rfl) (fun _ W hS => op_mv rfl rfl) ?_
        simp only [Act.put, List.setIfInBounds_toArray, List.set_cons_zero, List.set_cons_succ]
        refine k_val (.slice (some ⟨g0, o0, none⟩) m gc) (by apply opN; repeat' (first | apply OpAt.z | apply OpAt.s)) (by rfl) (by rfl) (fun _ W hS => op_mv rfl rfl) ?_
        simp only [Act.put, List.setIfInBounds_toArray, List.set_cons_zero, List.set_cons_succ]
        refine k_val (.int .i64 (j : Int)) (by apply opN; repeat' (first | apply OpAt.z | apply OpAt.s)) (by rfl) (by rfl) (fun _ W hS => op_mv rfl rfl) ?_
        simp only [Act.put, List.setIfInBounds_toArray, List.set_cons_zero, List.set_cons_succ]
        refine k_val (.pointer (some ⟨g0, o0 + j, none⟩)) (by apply opN; repeat' (first | apply OpAt.z | apply OpAt.s)) (by rfl) (by rfl) (fun _ W hS => op_idx_g rfl rfl rfl hjm) ?_
        simp only [Act.put, List.setIfInBounds_toArray, List.set_cons_zero, List.set_cons_succ]
        refine k_val (.slice pa pn pc) (by apply opN; repeat' (first | apply OpAt.z | apply OpAt.s)) (by rfl) (by rfl) (fun _ W hS => op_ld rfl rfl (sl_ld (hgc.out W (hNB.out W hS)).1)) ?_
        simp only [Act.put, List.setIfInBounds_toArray, List.set_cons_zero, List.set_cons_succ]
        refine k_step (fun K' u => ∃ g, u = .slice (some ⟨g, 0, none⟩) 0 0 ∧ K' = fun W => StrsOwn W N (.slice (some ⟨g, 0, none⟩) 0 0) [] ∧ Below N w4 W) (by apply opN; repeat' (first | apply OpAt.z | apply OpAt.s)) (by rfl) (by rfl) (by rfl) (fun W hC hK => ?_) ?_
        · exact xup_val (op_bs0 rfl) ⟨alloc_bel hC (Nat.le_of_eq hNH.out) _, _, ⟨strs_new0 (by rw [hNH.out]; exact hC.size), alloc_bel hC (Nat.le_of_eq hNH.out) _⟩, W.heap.size, rfl, rfl⟩
        rintro _ _ ⟨g, rfl, rfl⟩
        simp only [Act.put, List.setIfInBounds_toArray, List.set_cons_zero, List.set_cons_succ]
        refine k_step (fun K' u => K' = fun W => StrsOwn W N u rs ∧ Below N w4 W) (by apply opN; repeat' (first | apply OpAt.z | apply OpAt.s)) (by rfl) (by rfl) (by rfl) (fun W hC hK => ?_) ?_
        · obtain ⟨v', W', hrun, ho', hb', _⟩ := run_app_rowS hK.1 ((by rw [hNH.out]; exact hC.size)) ((strs_own huw.out).next (by rw [← hNH.out]; exact hC)) (by have := hrsl.out; simp; omega)
          rw [List.nil_append] at ho'
          exact xup_val (op_apps rfl rfl rfl hrun) ⟨hC.trans hb', _, ⟨ho', hC.trans hb'⟩, rfl⟩
        rintro _ v1 rfl
        simp only [Act.put, List.setIfInBounds_toArray, List.set_cons_zero, List.set_cons_succ]
        refine k_step (fun K' u => K' = fun W => StrsOwn W N v1 rs ∧ StrR W u L ∧ Below N w4 W) (by apply opN; repeat' (first | apply OpAt.z | apply OpAt.s)) (by rfl) (by rfl) (by rfl) (fun W hC hK => ?_) ?_
        · refine op_x1 (n := .slice pa pn pc) rfl rfl rfl cf_few ?_
          refine (hFw.out W (hNB.out W hC)).mono ?_
          rintro e w' ⟨u, rfl, h3, h4⟩
          have hb' := hC.trans (h4.mono (by rw [hNH.out]; exact hC.size))
          exact ⟨u, rfl, hb', _, ⟨own_keep hK.1 fun g hg => h4.block g (own_blk hK.1 hg).2.1, strs_own h3, hb'⟩, rfl⟩
        rintro _ u6 rfl
        simp only [Act.put, List.setIfInBounds_toArray, List.set_cons_zero, List.set_cons_succ]
        refine k_step (fun K' u => K' = fun W => StrsOwn W N u (rs ++ L) ∧ Below N w4 W) (by apply opN; repeat' (first | apply OpAt.z | apply OpAt.s)) (by rfl) (by rfl) (by rfl) (fun W hC hK => ?_) ?_
        · obtain ⟨v', W', hrun, ho', hb', _⟩ := run_app_rowS hK.1 ((by rw [hNH.out]; exact hC.size)) hK.2.1 (by have := hrsl.out; have := hLl.out; omega)
          exact xup_val (op_apps rfl rfl rfl hrun) ⟨hC.trans hb', _, ⟨ho', hC.trans hb'⟩, rfl⟩
        rintro _ v2 rfl
        simp only [Act.put, List.setIfInBounds_toArray, List.set_cons_zero, List.set_cons_succ]
        refine k_val (v2) (by apply opN; repeat' (first | apply OpAt.z | apply OpAt.s)) (by rfl) (by rfl) (fun _ W hS => op_asg rfl rfl) ?_
        simp only [Act.put, List.setIfInBounds_toArray, List.set_cons_zero, List.set_cons_succ]
        refine k_nil ?_
        intro W hCW hK
        go_upto_region 13 with fail
        have hJ5 := hide (hJ4.out.next (by rw [← hNH.out]; exact hK.2))
        have hu5 := hide (own_keep huw.out fun g hg => hK.2.block g (by rw [hNH.out]; exact (own_blk huw.out hg).2.1))
        have hv5 := hide (own_base hK.1 (show B ≤ N by rw [hNH.out]; exact hJ4.out.hB))
        obtain ⟨va, vc, ev2⟩ := own_shape hK.1
        rw [List.length_append, ← hrlH.out] at ev2
        obtain ⟨vl, hvl⟩ : ∃ vl, vl = rl + L.length := ⟨_, rfl⟩
        rw [← hvl] at ev2
        subst ev2
        clear hvl
        refine gen_w (fun W5 => JW K B b z db vb jb S rs false w1 W5 ∧ StrsOwn W5 B (.slice ua rl uc) rs ∧ StrsOwn W5 B (.slice va vl vc) (rs ++ L)) ⟨hJ5.out, hu5.out, hv5.out⟩ ?_
        rintro w5 ⟨g1, g2, g3⟩
        have hJ5 := hide g1
        have hu5 := hide g2
        have hv5 := hide g3
        clear g1 g2 g3 hCW hK hb0 hNB hNH hJ4 huw
        by_cases hlm : j + 1 = m
        · have he1 : ((j : Int) == (m : Int) - 1) = true := by simp; omega
          have hlmH := hide hlm
          clear hlm
          go_upto_region 15 with fail
          obtain ⟨hcu, hI6⟩ := RW.inv_cutAt hI.out kc hkc1
          have hI6 := hide hI6
          have hCu := hide (fun W (h : JW K B b z db vb jb S rs false w1 W) (h1 : StrsOwn W B (.slice ua rl uc) rs) (h2 : StrsOwn W B (.slice va vl vc) (rs ++ L)) => (show Calls Tryz.prog 30 #[.pointer (some ⟨b, 0, none⟩), .int .i64 (1 + pd)] W fun e w' => e = .returned (.int .i64 0) ∧ JW K B b z db vb jb (S.cutAt kc) rs false w1 w' ∧ StrsOwn w' B (.slice ua rl uc) rs ∧ StrsOwn w' B (.slice va vl vc) (rs ++ L) from by
            rw [hkcH.out]
            refine (h.cut (kc : Int) (by omega)).mono ?_
            rintro e w' ⟨g1, g2, _, g4⟩
            rw [hcu] at g1 g2
            exact ⟨g1, g2, own_tchJ h1 h (.of_tch g4), own_tchJ h2 h (.of_tch g4)⟩))
          clear hcu
          go_upto_region 16 with (first
            | (go_at_call 15; refine (hPk.out _).mono ?_; rintro e w' ⟨rfl, rfl⟩)
            | (go_at_call 30; refine (hCu.out _ hJ5.out hu5.out hv5.out).mono ?_; rintro e w6 ⟨rfl, h2, h3, h4⟩; have hJ6 := hide h2; have hu6 := hide h3; have hv6 := hide h4; clear h2 h3 h4))
          clear hCu hJ5 hu5 hv5
          have hJx := hJ6
          obtain ⟨X, rs', br', S', hap, hcs⟩ : ∃ x rs' br' S', RW.japp (RW.sha K) z (S.cutAt kc) rs false L = (x, rs', br', S') ∧ ((x = 0 ∧ rs' = rs ++ L ∧ br' = false ∧ RW.JInv (RW.sha K) z S' (rs ++ L) ∧ ((S.cutAt kc).left = 0 → S'.left = 0)) ∨ (x = 231 ∧ rs = rs' ∧ br' = false ∧ S.cutAt kc = S') ∨ (x = 221 ∧ rs = rs' ∧ br' = true ∧ (S.cutAt kc).left ≠ 0 ∧ RW.EndP (RW.sha K) z S' rs (rs ++ L) ∧ S'.pend.length = 1 ∧ S'.ok z)) := by
            rcases RW.japp_end (RW.sha_len K) hI6.out L hLs.out with ⟨S', h1, h2, h3⟩ | h1 | ⟨S', h1, _, h2, h3, h4, h5⟩
            · exact ⟨_, _, _, _, h1, .inl ⟨rfl, rfl, rfl, h2, h3⟩⟩
            · exact ⟨_, _, _, _, h1, .inr (.inl ⟨rfl, rfl, rfl, rfl⟩)⟩
            · exact ⟨_, _, _, _, h1, .inr (.inr ⟨rfl, rfl, rfl, h2, h3, h4, h5⟩)⟩
          have hap := hide hap
          have hcs := hide hcs
          have hF16 := hide (hFw.out w6 hJ6.out.bel)
          have hAp := hide (fun W v (h : JW K B b z db vb jb (S.cutAt kc) rs false w1 W) (hv : StrR W v L) (h1 : StrsOwn W B (.slice ua rl uc) rs) (h2 : StrsOwn W B (.slice va vl vc) (rs ++ L)) => (show Calls Tryz.prog 11 #[.pointer (some ⟨jb, 0, none⟩), v] W fun e w' => e = .returned (.int .i64 X) ∧ JW K B b z db vb jb S' rs' br' w1 w' ∧ StrsOwn w' B (.slice ua rl uc) rs ∧ StrsOwn w' B (.slice va vl vc) (rs ++ L) from by
            refine (h.append hks (by rw [hI6.out.pend]; decide) hI.out.fits hv (by have := hLl.out; omega) (hnx.out _ h.bel).1).mono ?_
            rintro e w' ⟨rfl, g2, _, g4⟩
            rw [hap.out] at g2 ⊢
            exact ⟨rfl, g2, own_tchJ h1 h g4, own_tchJ h2 h g4⟩))
          have hck : w6.cell? ⟨g0, o0 + j, none⟩ = some (.slice pa pn pc) := (hgc.out w6 hJ6.out.bel).1
          go_upto_region 17 with (first
            | (go_at_call 12; refine hF16.out.mono ?_; rintro e w7 ⟨uf, rfl, h3, h4⟩; have huf := hide (strs_own h3); have hJ7 := hide (hJ6.out.next h4); have hu7 := hide (own_keep hu6.out fun g hg => h4.block g (own_blk hu6.out hg).2.1); have hv7 := hide (own_keep hv6.out fun g hg => h4.block g (own_blk hv6.out hg).2.1); clear h3 h4)
            | (go_at_call 11; refine (hAp.out _ _ hJ7.out huf.out hu7.out hv7.out).mono ?_; rintro e w8 ⟨rfl, h2, h3, h4⟩; have hJ8 := hide h2; have hu8 := hide h3; have hv8 := hide h4; clear h2 h3 h4))
          clear hck hF16 hAp hap hJx huf hJ7 hu7 hv7 hJ6 hu6 hv6
          rcases hcs.out with ⟨rfl, rfl, rfl, hI2, h02⟩ | ⟨rfl, rfl, rfl, rfl⟩ | ⟨rfl, rfl, rfl, h02, hE, hp1, hok⟩
          · have hI2 := hide hI2
            have h02 := hide h02
            clear hcs
            go_wp2
            go_roundw
            case rel => exact ⟨j + 1, by go_num, by omega, by omega, ⟨⟨S', rs ++ L, false, rs ++ L, rs ++ L, hJ8.out, hv8.out, hv8.out, RW.EndP.inv hI2.out, (fun x hx => by rw [hI2.out.pend] at hx; cases hx), (by rw [hI2.out.pend]; exact Nat.zero_le _), (by have := hrsl.out; have := hLl.out; rw [List.length_append]; omega), (by have := hrsl.out; have := hLl.out; rw [List.length_append]; omega), fun h1 h2 => by have := hlmH.out; omega⟩⟩⟩
            case measure => simp [intOf]; omega
          · clear hcs
            go_wp2
            go_roundw
            case rel => exact ⟨j + 1, by go_num, by omega, by omega, ⟨⟨S.cutAt kc, rs, false, rs, rs, hJ8.out, hu8.out, hu8.out, RW.EndP.inv hI6.out, (fun x hx => by rw [hI6.out.pend] at hx; cases hx), (by rw [hI6.out.pend]; exact Nat.zero_le _), (by have := hrsl.out; omega), (by have := hrsl.out; omega), fun h1 h2 => by have := hlmH.out; omega⟩⟩⟩
            case measure => simp [intOf]; omega
          · have hE := hide hE
            have hp1 := hide hp1
            have hok := hide hok
            clear hcs h02
            go_wp2
            go_roundw
            case rel => exact ⟨j + 1, by go_num, by omega, by omega, ⟨⟨S', rs, true, rs, rs ++ L, hJ8.out, hu8.out, hv8.out, hE.out, hok.out, Nat.le_of_eq hp1.out, (by have := hrsl.out; omega), (by have := hrsl.out; have := hLl.out; rw [List.length_append]; omega), fun h1 h2 => by have := hlmH.out; omega⟩⟩⟩
            case measure => simp [intOf]; omega
        · have he1 : ((j : Int) == (m : Int) - 1) = false := by simp; omega
          have hlmH := hide hlm
          clear hlm
          by_cases hl7 : j = 7
          · have he2 : ((j : Int) == 7) = true := by simp; omega
            have hl7H := hide hl7
            clear hl7
            go_upto_region 15 with fail
            obtain ⟨hcu, hI6⟩ := RW.inv_cutAt hI.out kc hkc1
            have hI6 := hide hI6
            have hCu := hide (fun W (h : JW K B b z db vb jb S rs false w1 W) (h1 : StrsOwn W B (.slice ua rl uc) rs) (h2 : StrsOwn W B (.slice va vl vc) (rs ++ L)) => (show Calls Tryz.prog 30 #[.pointer (some ⟨b, 0, none⟩), .int .i64 (1 + pd)] W fun e w' => e = .returned (.int .i64 0) ∧ JW K B b z db vb jb (S.cutAt kc) rs false w1 w' ∧ StrsOwn w' B (.slice ua rl uc) rs ∧ StrsOwn w' B (.slice va vl vc) (rs ++ L) from by
              rw [hkcH.out]
              refine (h.cut (kc : Int) (by omega)).mono ?_
              rintro e w' ⟨g1, g2, _, g4⟩
              rw [hcu] at g1 g2
              exact ⟨g1, g2, own_tchJ h1 h (.of_tch g4), own_tchJ h2 h (.of_tch g4)⟩))
            clear hcu
            go_upto_region 16 with (first
              | (go_at_call 15; refine (hPk.out _).mono ?_; rintro e w' ⟨rfl, rfl⟩)
              | (go_at_call 30; refine (hCu.out _ hJ5.out hu5.out hv5.out).mono ?_; rintro e w6 ⟨rfl, h2, h3, h4⟩; have hJ6 := hide h2; have hu6 := hide h3; have hv6 := hide h4; clear h2 h3 h4))
            clear hCu hJ5 hu5 hv5
            have hJx := hJ6
            obtain ⟨X, rs', br', S', hap, hcs⟩ : ∃ x rs' br' S', RW.japp (RW.sha K) z (S.cutAt kc) rs false L = (x, rs', br', S') ∧ ((x = 0 ∧ rs' = rs ++ L ∧ br' = false ∧ RW.JInv (RW.sha K) z S' (rs ++ L) ∧ ((S.cutAt kc).left = 0 → S'.left = 0)) ∨ (x = 231 ∧ rs = rs' ∧ br' = false ∧ S.cutAt kc = S') ∨ (x = 221 ∧ rs = rs' ∧ br' = true ∧ (S.cutAt kc).left ≠ 0 ∧ RW.EndP (RW.sha K) z S' rs (rs ++ L) ∧ S'.pend.length = 1 ∧ S'.ok z)) := by
              rcases RW.japp_end (RW.sha_len K) hI6.out L hLs.out with ⟨S', h1, h2, h3⟩ | h1 | ⟨S', h1, _, h2, h3, h4, h5⟩
              · exact ⟨_, _, _, _, h1, .inl ⟨rfl, rfl, rfl, h2, h3⟩⟩
              · exact ⟨_, _, _, _, h1, .inr (.inl ⟨rfl, rfl, rfl, rfl⟩)⟩
              · exact ⟨_, _, _, _, h1, .inr (.inr ⟨rfl, rfl, rfl, h2, h3, h4, h5⟩)⟩
            have hap := hide hap
            have hcs := hide hcs
            have hF16 := hide (hFw.out w6 hJ6.out.bel)
            have hAp := hide (fun W v (h : JW K B b z db vb jb (S.cutAt kc) rs false w1 W) (hv : StrR W v L) (h1 : StrsOwn W B (.slice ua rl uc) rs) (h2 : StrsOwn W B (.slice va vl vc) (rs ++ L)) => (show Calls Tryz.prog 11 #[.pointer (some ⟨jb, 0, none⟩), v] W fun e w' => e = .returned (.int .i64 X) ∧ JW K B b z db vb jb S' rs' br' w1 w' ∧ StrsOwn w' B (.slice ua rl uc) rs ∧ StrsOwn w' B (.slice va vl vc) (rs ++ L) from by
              refine (h.append hks (by rw [hI6.out.pend]; decide) hI.out.fits hv (by have := hLl.out; omega) (hnx.out _ h.bel).1).mono ?_
              rintro e w' ⟨rfl, g2, _, g4⟩
              rw [hap.out] at g2 ⊢
              exact ⟨rfl, g2, own_tchJ h1 h g4, own_tchJ h2 h g4⟩))
            have hck : w6.cell? ⟨g0, o0 + j, none⟩ = some (.slice pa pn pc) := (hgc.out w6 hJ6.out.bel).1
            go_upto_region 17 with (first
              | (go_at_call 12; refine hF16.out.mono ?_; rintro e w7 ⟨uf, rfl, h3, h4⟩; have huf := hide (strs_own h3); have hJ7 := hide (hJ6.out.next h4); have hu7 := hide (own_keep hu6.out fun g hg => h4.block g (own_blk hu6.out hg).2.1); have hv7 := hide (own_keep hv6.out fun g hg => h4.block g (own_blk hv6.out hg).2.1); clear h3 h4)
              | (go_at_call 11; refine (hAp.out _ _ hJ7.out huf.out hu7.out hv7.out).mono ?_; rintro e w8 ⟨rfl, h2, h3, h4⟩; have hJ8 := hide h2; have hu8 := hide h3; have hv8 := hide h4; clear h2 h3 h4))
            clear hck hF16 hAp hap hJx huf hJ7 hu7 hv7 hJ6 hu6 hv6
            rcases hcs.out with ⟨rfl, rfl, rfl, hI2, h02⟩ | ⟨rfl, rfl, rfl, rfl⟩ | ⟨rfl, rfl, rfl, h02, hE, hp1, hok⟩
            · have hI2 := hide hI2
              have h02 := hide h02
              clear hcs
              go_wp2
              go_roundw
              case rel => exact ⟨j + 1, by go_num, by omega, by omega, ⟨⟨S', rs ++ L, false, rs ++ L, rs ++ L, hJ8.out, hv8.out, hv8.out, RW.EndP.inv hI2.out, (fun x hx => by rw [hI2.out.pend] at hx; cases hx), (by rw [hI2.out.pend]; exact Nat.zero_le _), (by have := hrsl.out; have := hLl.out; rw [List.length_append]; omega), (by have := hrsl.out; have := hLl.out; rw [List.length_append]; omega), fun h1 h2 => by have := hl7H.out; omega⟩⟩⟩
              case measure => simp [intOf]; omega
            · clear hcs
              go_wp2
              go_roundw
              case rel => exact ⟨j + 1, by go_num, by omega, by omega, ⟨⟨S.cutAt kc, rs, false, rs, rs, hJ8.out, hu8.out, hu8.out, RW.EndP.inv hI6.out, (fun x hx => by rw [hI6.out.pend] at hx; cases hx), (by rw [hI6.out.pend]; exact Nat.zero_le _), (by have := hrsl.out; omega), (by have := hrsl.out; omega), fun h1 h2 => by have := hl7H.out; omega⟩⟩⟩
              case measure => simp [intOf]; omega
            · have hE := hide hE
              have hp1 := hide hp1
              have hok := hide hok
              clear hcs h02
              go_wp2
              go_roundw
              case rel => exact ⟨j + 1, by go_num, by omega, by omega, ⟨⟨S', rs, true, rs, rs ++ L, hJ8.out, hu8.out, hv8.out, hE.out, hok.out, Nat.le_of_eq hp1.out, (by have := hrsl.out; omega), (by have := hrsl.out; have := hLl.out; rw [List.length_append]; omega), fun h1 h2 => by have := hl7H.out; omega⟩⟩⟩
              case measure => simp [intOf]; omega
          · have he2 : ((j : Int) == 7) = false := by simp; omega
            have hl7H := hide hl7
            clear hl7
            go_upto_region 16 with fail
            have hJx := hJ5
            obtain ⟨X, rs', br', S', hap, hcs⟩ : ∃ x rs' br' S', RW.japp (RW.sha K) z (S) rs false L = (x, rs', br', S') ∧ ((x = 0 ∧ rs' = rs ++ L ∧ br' = false ∧ RW.JInv (RW.sha K) z S' (rs ++ L) ∧ ((S).left = 0 → S'.left = 0)) ∨ (x = 231 ∧ rs = rs' ∧ br' = false ∧ S = S') ∨ (x = 221 ∧ rs = rs' ∧ br' = true ∧ (S).left ≠ 0 ∧ RW.EndP (RW.sha K) z S' rs (rs ++ L) ∧ S'.pend.length = 1 ∧ S'.ok z)) := by
              rcases RW.japp_end (RW.sha_len K) hI.out L hLs.out with ⟨S', h1, h2, h3⟩ | h1 | ⟨S', h1, _, h2, h3, h4, h5⟩
              · exact ⟨_, _, _, _, h1, .inl ⟨rfl, rfl, rfl, h2, h3⟩⟩
              · exact ⟨_, _, _, _, h1, .inr (.inl ⟨rfl, rfl, rfl, rfl⟩)⟩
              · exact ⟨_, _, _, _, h1, .inr (.inr ⟨rfl, rfl, rfl, h2, h3, h4, h5⟩)⟩
            have hap := hide hap
            have hcs := hide hcs
            have hF16 := hide (hFw.out w5 hJ5.out.bel)
            have hAp := hide (fun W v (h : JW K B b z db vb jb (S) rs false w1 W) (hv : StrR W v L) (h1 : StrsOwn W B (.slice ua rl uc) rs) (h2 : StrsOwn W B (.slice va vl vc) (rs ++ L)) => (show Calls Tryz.prog 11 #[.pointer (some ⟨jb, 0, none⟩), v] W fun e w' => e = .returned (.int .i64 X) ∧ JW K B b z db vb jb S' rs' br' w1 w' ∧ StrsOwn w' B (.slice ua rl uc) rs ∧ StrsOwn w' B (.slice va vl vc) (rs ++ L) from by
              refine (h.append hks (by rw [hI.out.pend]; decide) hI.out.fits hv (by have := hLl.out; omega) (hnx.out _ h.bel).1).mono ?_
              rintro e w' ⟨rfl, g2, _, g4⟩
              rw [hap.out] at g2 ⊢
              exact ⟨rfl, g2, own_tchJ h1 h g4, own_tchJ h2 h g4⟩))
            have hck : w5.cell? ⟨g0, o0 + j, none⟩ = some (.slice pa pn pc) := (hgc.out w5 hJ5.out.bel).1
            go_upto_region 17 with (first
              | (go_at_call 12; refine hF16.out.mono ?_; rintro e w7 ⟨uf, rfl, h3, h4⟩; have huf := hide (strs_own h3); have hJ7 := hide (hJ5.out.next h4); have hu7 := hide (own_keep hu5.out fun g hg => h4.block g (own_blk hu5.out hg).2.1); have hv7 := hide (own_keep hv5.out fun g hg => h4.block g (own_blk hv5.out hg).2.1); clear h3 h4)
              | (go_at_call 11; refine (hAp.out _ _ hJ7.out huf.out hu7.out hv7.out).mono ?_; rintro e w8 ⟨rfl, h2, h3, h4⟩; have hJ8 := hide h2; have hu8 := hide h3; have hv8 := hide h4; clear h2 h3 h4))
            clear hck hF16 hAp hap hJx huf hJ7 hu7 hv7 hJ5 hu5 hv5
            rcases hcs.out with ⟨rfl, rfl, rfl, hI2, h02⟩ | ⟨rfl, rfl, rfl, rfl⟩ | ⟨rfl, rfl, rfl, h02, hE, hp1, hok⟩
            · have hI2 := hide hI2
              have h02 := hide h02
              clear hcs
              go_wp2
              go_roundw
              case rel => exact ⟨j + 1, by go_num, by omega, by omega, ⟨⟨S', rs ++ L, false, rs ++ L, rs ++ L, hJ8.out, hv8.out, hv8.out, RW.EndP.inv hI2.out, (fun x hx => by rw [hI2.out.pend] at hx; cases hx), (by rw [hI2.out.pend]; exact Nat.zero_le _), (by have := hrsl.out; have := hLl.out; rw [List.length_append]; omega), (by have := hrsl.out; have := hLl.out; rw [List.length_append]; omega), fun _ _ => ⟨hI2.out, h02.out h0.out, rfl⟩⟩⟩⟩
              case measure => simp [intOf]; omega
            · clear hcs
              go_wp2
              go_roundw
              case rel => exact ⟨j + 1, by go_num, by omega, by omega, ⟨⟨S, rs, false, rs, rs, hJ8.out, hu8.out, hu8.out, RW.EndP.inv hI.out, (fun x hx => by rw [hI.out.pend] at hx; cases hx), (by rw [hI.out.pend]; exact Nat.zero_le _), (by have := hrsl.out; omega), (by have := hrsl.out; omega), fun _ _ => ⟨hI.out, h0.out, rfl⟩⟩⟩⟩
              case measure => simp [intOf]; omega
            · exact absurd h0.out h02
      · obtain rfl : j = 8 := by omega
        obtain ⟨S, rs, br, was, want, hJ, hu1, hu2, hE, hok, hpd, hwl, hwl2, _⟩ := hQ.out.out
        have hJ := hide hJ
        have hu1 := hide hu1
        have hu2 := hide hu2
        have hE := hide hE
        have hok := hide hok
        have hwl := hide hwl
        have hwl2 := hide hwl2
        clear hQ hpd
        obtain ⟨M, hM⟩ : ∃ M, M = min q 20 := ⟨_, rfl⟩
        have hKp := hide (fun W (hW : Below B w1 W) => (show IntsB W.heap.size W (.slice ka M kcap) (keep.take 20) from hM ▸ ints_rowJ (ints_first (hnx.out W hW).2.2.2 hqH.out)))
        have hqk := row_cap (hnx.out wo hJ.out.bel).2.2.2
        have hMq : M ≤ q := by rw [hM]; exact Nat.min_le_left _ _
        have hMc : M ≤ kcap := Nat.le_trans hMq hqk
        have hmin : min (q : Int) 20 = (M : Int) := by rw [hM]; omega
        clear hM
        obtain ⟨c1, hcr, hLi⟩ := hE.out (keep.take 20) torn
        obtain ⟨rs9, hLi9, hcs⟩ : ∃ rs9, RW.Lies (RW.sha K) z c1 rs9 ∧ (rs9 = was ∨ rs9 = want) := hLi.elim (fun h => ⟨_, h, .inl rfl⟩) (fun h => ⟨_, h, .inr rfl⟩)
        have hcr := hide hcr
        have hLi9 := hide hLi9
        have hcs := hide hcs
        have h9l := hide (show rs9.length ≤ 1500 by have := RW.stos_ge (RW.sha K) rs9 RW.z32; have := hLi9.out.fits; have := hzb.out.2; omega)
        have hCr := hide (show Calls Tryz.prog 31 #[.pointer (some ⟨b, 0, none⟩), .slice ka M kcap, .int .i64 torn] wo fun e w' => e = .returned (.int .i64 0) ∧ JW K B b z db vb jb ⟨false, 0, c1, c1, []⟩ rs br w1 w' ∧ StrsOwn w' B u16 was ∧ StrsOwn w' B u17 want from by
          refine (hJ.out.crash hok.out torn (by rw [List.length_take]; omega) (hKp.out wo hJ.out.bel)).mono ?_
          rintro e w' ⟨g1, g2, _, g4⟩
          rw [hcr.out] at g2
          exact ⟨g1, g2, own_tchJ hu1.out hJ.out (.of_tch g4), own_tchJ hu2.out hJ.out (.of_tch g4)⟩)
        clear hLi hE
        go_upto_region 24 with (go_at_call 31; refine hCr.out.mono ?_; rintro e w5 ⟨rfl, h2, h3, h4⟩; have hJ5 := hide h2; have hu5 := hide h3; have hv5 := hide h4; clear h2 h3 h4)
        clear hCr hJ hu1 hu2 hmin hMc hMq hqk hKp hcr
        have hOl := hide (open_lies hks hJ5.out hLi9.out (hnx.out _ hJ5.out.bel).1 (hnx.out _ hJ5.out.bel).2.1)
        go_upto_region 25 with (go_at_call 26; refine hOl.out.mono ?_; rintro e w6 ⟨j2, S2, rfl, h1, h2, h3, h4, _⟩; have hI6 := hide h1; have hJ6 := hide (show JW K B b z db vb j2 S2 rs9 false w1 w6 from h3); have hu6 := hide (own_tchJ hu5.out hJ5.out (.of_tch h4)); have hv6 := hide (own_tchJ hv5.out hJ5.out (.of_tch h4)); clear h1 h2 h3 h4)
        clear hOl hJ5 hu5 hv5
        have hRc := hide (fun W (h : JW K B b z db vb j2 S2 rs9 false w1 W) (h1 : StrsOwn W B u16 was) (h2 : StrsOwn W B u17 want) => (show Calls Tryz.prog 20 #[.pointer (some ⟨j2, 0, none⟩)] W fun e w' => ∃ u, e = .returned u ∧ StrR w' u rs9 ∧ JW K B b z db vb j2 S2 rs9 false w1 w' ∧ StrsOwn w' B u16 was ∧ StrsOwn w' B u17 want from by
          refine (h.records hI6.out.fits).mono ?_
          rintro e w' ⟨u, g1, g2, g3, g4⟩
          exact ⟨u, g1, strs_own g2, g3, own_keep h1 fun g hg => g4.block g (own_blk h1 hg).2.1, own_keep h2 fun g hg => g4.block g (own_blk h2 hg).2.1⟩))
        have hSm := hide (fun W u (v : Value) (l : List ByteArray) (hll : l.length ≤ 2000) (hu : StrR W u rs9) (hv : StrR W v l) => same20_any u v rs9 l W hu hv (by have := h9l.out; omega) (by omega))
        by_cases h9 : rs9 = was
        · have hd9 : decide (rs9 = was) = true := decide_eq_true h9
          go_wp2_with (first
            | (go_at_call 20; refine (hRc.out _ hJ6.out hu6.out hv6.out).mono ?_; rintro e w7 ⟨u7, rfl, h3, h4, h5, h6⟩; have hr7 := hide h3; have hJ7 := hide h4; have hu7 := hide h5; clear h3 h4 h5 h6)
            | (go_at_call 19; refine (hSm.out _ _ _ _ hwl.out hr7.out (strs_own hu7.out)).mono ?_; rintro e w8 ⟨rfl, h5⟩; rw [hd9]; have hJ8 := hide (hJ7.out.next h5); clear h5))
          go_ret
          exact ⟨rfl, hB1H.out.trans (hJ8.out.bel.mono hwB.out)⟩
        · have hd9 : decide (rs9 = was) = false := decide_eq_false h9
          have hd9w : decide (rs9 = want) = true := decide_eq_true (hcs.out.resolve_left h9)
          have tok1 : True := trivial
          have tok2 : True := trivial
          go_wp2_with (first
            | (go_at_call 20; have _t := tok1; clear tok1; refine (hRc.out _ hJ6.out hu6.out hv6.out).mono ?_; rintro e w7 ⟨u7, rfl, h3, h4, h5, h6⟩; have hr7 := hide h3; have hJ7 := hide h4; have hu7 := hide h5; have hv7 := hide h6; clear h3 h4 h5 h6)
            | (go_at_call 19; have _t := tok2; clear tok2; refine (hSm.out _ _ _ _ hwl.out hr7.out (strs_own hu7.out)).mono ?_; rintro e w8 ⟨rfl, h5⟩; rw [hd9]; have hJ8 := hide (hJ7.out.next h5); have hu8 := hide (own_keep hu7.out fun g hg => h5.block g (own_blk hu7.out hg).2.1); have hv8 := hide (own_keep hv7.out fun g hg => h5.block g (own_blk hv7.out hg).2.1); clear h5)
            | (go_at_call 20; refine (hRc.out _ hJ8.out hu8.out hv8.out).mono ?_; rintro e w9 ⟨u9, rfl, h3, h4, h5, h6⟩; have hr9 := hide h3; have hJ9 := hide h4; have hv9 := hide h6; clear h3 h4 h5 h6)
            | (go_at_call 19; refine (hSm.out _ _ _ _ hwl2.out hr9.out (strs_own hv9.out)).mono ?_; rintro e w10 ⟨rfl, h5⟩; rw [hd9w]; have hJ10 := hide (hJ9.out.next h5); clear h5))
          go_ret
          exact ⟨rfl, hB1H.out.trans (hJ10.out.bel.mono hwB.out)⟩
    · obtain rfl : m = j := by omega
      obtain ⟨S, rs, br, was, want, hJ, hu1, hu2, hE, hok, hpd, hwl, hwl2, _⟩ := hQ.out.out
      have hJ := hide hJ
      have hu1 := hide hu1
      have hu2 := hide hu2
      have hE := hide hE
      have hok := hide hok
      have hwl := hide hwl
      have hwl2 := hide hwl2
      clear hQ hpd
      obtain ⟨M, hM⟩ : ∃ M, M = min q 20 := ⟨_, rfl⟩
      have hKp := hide (fun W (hW : Below B w1 W) => (show IntsB W.heap.size W (.slice ka M kcap) (keep.take 20) from hM ▸ ints_rowJ (ints_first (hnx.out W hW).2.2.2 hqH.out)))
      have hqk := row_cap (hnx.out wo hJ.out.bel).2.2.2
      have hMq : M ≤ q := by rw [hM]; exact Nat.min_le_left _ _
      have hMc : M ≤ kcap := Nat.le_trans hMq hqk
      have hmin : min (q : Int) 20 = (M : Int) := by rw [hM]; omega
      clear hM
      obtain ⟨c1, hcr, hLi⟩ := hE.out (keep.take 20) torn
      obtain ⟨rs9, hLi9, hcs⟩ : ∃ rs9, RW.Lies (RW.sha K) z c1 rs9 ∧ (rs9 = was ∨ rs9 = want) := hLi.elim (fun h => ⟨_, h, .inl rfl⟩) (fun h => ⟨_, h, .inr rfl⟩)
      have hcr := hide hcr
      have hLi9 := hide hLi9
      have hcs := hide hcs
      have h9l := hide (show rs9.length ≤ 1500 by have := RW.stos_ge (RW.sha K) rs9 RW.z32; have := hLi9.out.fits; have := hzb.out.2; omega)
      have hCr := hide (show Calls Tryz.prog 31 #[.pointer (some ⟨b, 0, none⟩), .slice ka M kcap, .int .i64 torn] wo fun e w' => e = .returned (.int .i64 0) ∧ JW K B b z db vb jb ⟨false, 0, c1, c1, []⟩ rs br w1 w' ∧ StrsOwn w' B u16 was ∧ StrsOwn w' B u17 want from by
        refine (hJ.out.crash hok.out torn (by rw [List.length_take]; omega) (hKp.out wo hJ.out.bel)).mono ?_
        rintro e w' ⟨g1, g2, _, g4⟩
        rw [hcr.out] at g2
        exact ⟨g1, g2, own_tchJ hu1.out hJ.out (.of_tch g4), own_tchJ hu2.out hJ.out (.of_tch g4)⟩)
      clear hLi hE
      go_upto_region 24 with (go_at_call 31; refine hCr.out.mono ?_; rintro e w5 ⟨rfl, h2, h3, h4⟩; have hJ5 := hide h2; have hu5 := hide h3; have hv5 := hide h4; clear h2 h3 h4)
      clear hCr hJ hu1 hu2 hmin hMc hMq hqk hKp hcr
      have hOl := hide (open_lies hks hJ5.out hLi9.out (hnx.out _ hJ5.out.bel).1 (hnx.out _ hJ5.out.bel).2.1)
      go_upto_region 25 with (go_at_call 26; refine hOl.out.mono ?_; rintro e w6 ⟨j2, S2, rfl, h1, h2, h3, h4, _⟩; have hI6 := hide h1; have hJ6 := hide (show JW K B b z db vb j2 S2 rs9 false w1 w6 from h3); have hu6 := hide (own_tchJ hu5.out hJ5.out (.of_tch h4)); have hv6 := hide (own_tchJ hv5.out hJ5.out (.of_tch h4)); clear h1 h2 h3 h4)
      clear hOl hJ5 hu5 hv5
      have hRc := hide (fun W (h : JW K B b z db vb j2 S2 rs9 false w1 W) (h1 : StrsOwn W B u16 was) (h2 : StrsOwn W B u17 want) => (show Calls Tryz.prog 20 #[.pointer (some ⟨j2, 0, none⟩)] W fun e w' => ∃ u, e = .returned u ∧ StrR w' u rs9 ∧ JW K B b z db vb j2 S2 rs9 false w1 w' ∧ StrsOwn w' B u16 was ∧ StrsOwn w' B u17 want from by
        refine (h.records hI6.out.fits).mono ?_
        rintro e w' ⟨u, g1, g2, g3, g4⟩
        exact ⟨u, g1, strs_own g2, g3, own_keep h1 fun g hg => g4.block g (own_blk h1 hg).2.1, own_keep h2 fun g hg => g4.block g (own_blk h2 hg).2.1⟩))
      have hSm := hide (fun W u (v : Value) (l : List ByteArray) (hll : l.length ≤ 2000) (hu : StrR W u rs9) (hv : StrR W v l) => same20_any u v rs9 l W hu hv (by have := h9l.out; omega) (by omega))
      by_cases h9 : rs9 = was
      · have hd9 : decide (rs9 = was) = true := decide_eq_true h9
        go_wp2_with (first
          | (go_at_call 20; refine (hRc.out _ hJ6.out hu6.out hv6.out).mono ?_; rintro e w7 ⟨u7, rfl, h3, h4, h5, h6⟩; have hr7 := hide h3; have hJ7 := hide h4; have hu7 := hide h5; clear h3 h4 h5 h6)
          | (go_at_call 19; refine (hSm.out _ _ _ _ hwl.out hr7.out (strs_own hu7.out)).mono ?_; rintro e w8 ⟨rfl, h5⟩; rw [hd9]; have hJ8 := hide (hJ7.out.next h5); clear h5))
        go_ret
        exact ⟨rfl, hB1H.out.trans (hJ8.out.bel.mono hwB.out)⟩
      · have hd9 : decide (rs9 = was) = false := decide_eq_false h9
        have hd9w : decide (rs9 = want) = true := decide_eq_true (hcs.out.resolve_left h9)
        have tok1 : True := trivial
        have tok2 : True := trivial
        go_wp2_with (first
          | (go_at_call 20; have _t := tok1; clear tok1; refine (hRc.out _ hJ6.out hu6.out hv6.out).mono ?_; rintro e w7 ⟨u7, rfl, h3, h4, h5, h6⟩; have hr7 := hide h3; have hJ7 := hide h4; have hu7 := hide h5; have hv7 := hide h6; clear h3 h4 h5 h6)
          | (go_at_call 19; have _t := tok2; clear tok2; refine (hSm.out _ _ _ _ hwl.out hr7.out (strs_own hu7.out)).mono ?_; rintro e w8 ⟨rfl, h5⟩; rw [hd9]; have hJ8 := hide (hJ7.out.next h5); have hu8 := hide (own_keep hu7.out fun g hg => h5.block g (own_blk hu7.out hg).2.1); have hv8 := hide (own_keep hv7.out fun g hg => h5.block g (own_blk hv7.out hg).2.1); clear h5)
          | (go_at_call 20; refine (hRc.out _ hJ8.out hu8.out hv8.out).mono ?_; rintro e w9 ⟨u9, rfl, h3, h4, h5, h6⟩; have hr9 := hide h3; have hJ9 := hide h4; have hv9 := hide h6; clear h3 h4 h5 h6)
          | (go_at_call 19; refine (hSm.out _ _ _ _ hwl2.out hr9.out (strs_own hv9.out)).mono ?_; rintro e w10 ⟨rfl, h5⟩; rw [hd9w]; have hJ10 := hide (hJ9.out.next h5); clear h5))
        go_ret
        exact ⟨rfl, hB1H.out.trans (hJ10.out.bel.mono hwB.out)⟩
end Go.Proofs.YtllbphanfahkkaaGreatDoor

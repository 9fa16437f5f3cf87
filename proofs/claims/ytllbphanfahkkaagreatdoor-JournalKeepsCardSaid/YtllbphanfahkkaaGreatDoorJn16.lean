/-
  Package royaltylaw23: JournalKeeps.
-/
import Derived.Test.YtllbphanfahkkaaGreatDoorJnW
namespace Go.Proofs.YtllbphanfahkkaaGreatDoor
open Go.RowKit RG
/-- what a round of JournalKeeps finds and leaves -/
structure KpR (K : Nat → Int) (B b z db vb jb : Nat) (uv : Value) (w1 W : World) : Prop where
  out : ∃ S rs br sure, JW K B b z db vb jb S rs br w1 W ∧ StrsOwn W B uv sure ∧ RW.KpS (RW.sha K) z S rs br ∧ sure <+: rs
set_option maxRecDepth 100000 in
set_option maxHeartbeats 8000000 in
theorem keeps_any (c : Int) (hc : -9223372036854775808 ≤ c) (hc2 : c ≤ 9223372036854775807) (gv : Value) (os : List RW.Opc) (hpl : os.length ≤ 9223372036854775807) (K : Nat → Int) (ks : Array Value) (hks : RW.WsOk ks K) (a : Addr) (w : World) (hps : OpsR w gv os) (hK : KLaid w ks) (hg : w.cell? ⟨1, 0, none⟩ = some (RW.jeW a)) :
    Calls Tryz.prog 6 #[.int .i64 c, gv] w fun e w' => e = .returned (.bool true) ∧ Below w.heap.size w w' := by
  obtain ⟨z, hz⟩ : ∃ z : Nat, 1 + RW.pickI c 1500 = (z : Int) := ⟨(1 + RW.pickI c 1500).toNat, by have := RW.pickI_bd c 1500 (by decide); omega⟩
  have hzb := hide (show 1 ≤ z ∧ z ≤ 1500 by have := RW.pickI_bd c 1500 (by decide); omega)
  have hSz := hide (fun W => lsize_any c hc hc2 z hz W)
  have hgl := hide (cell_ltJ hg)
  have hnx0 := hide (fun W (hW : Below w.heap.size w W) => (show KLaid W ks ∧ W.cell? ⟨1, 0, none⟩ = some (RW.jeW a) ∧ OpsR W gv os from ⟨RW.jklaid hK hW (Nat.le_refl _), (World.cell?_of_block (a := ⟨1, 0, none⟩) (hW.block _ hgl.out)).trans hg, hps.next hW⟩))
  have hSn := hide (sane_any K ks hks a w hK hg)
  obtain ⟨ga, gc, egv, _, _⟩ := id hps.1
  subst egv
  obtain ⟨m, hm⟩ : ∃ m, m = os.length := ⟨_, rfl⟩
  have hmH := hide hm
  rw [← hm] at hnx0 hpl ⊢
  clear hK hg hps hz hgl hm
  go_enter Tryz.func6, Tryz.ntmps6
  go_upto_region 2 with (go_at_call 9; refine hSn.out.mono ?_; rintro e w1 ⟨rfl, hB1⟩; have hB1H := hide hB1; clear hB1)
  obtain ⟨B, hB⟩ : ∃ B, B = w1.heap.size := ⟨_, rfl⟩
  have hBH := hide hB
  have hwB := hide (show w.heap.size ≤ B by rw [hB]; exact hB1H.out.size)
  have hnx := hide (fun W (hW : Below B w1 W) => hnx0.out W (hB1H.out.trans (hW.mono hwB.out)))
  have hN := hide (new_any z hzb.out.1 (by have := hzb.out.2; omega) w1)
  rw [← hB] at hN
  clear hB hSn hnx0
  go_upto_region 3 with (first
    | (go_at_call 16; refine (hSz.out _).mono ?_; rintro e w' ⟨rfl, rfl⟩)
    | (go_at_call 25; refine hN.out.mono ?_; rintro e w2 ⟨b, rfl, hd1, hB2⟩; obtain ⟨db, vb, hd1⟩ := hd1; have hD2 := hide hd1; have hB2H := hide hB2; clear hd1 hB2))
  have hOp := hide (open_inv hks hD2.out (RW.inv_dk0 z) (hnx.out w2 hB2H.out).1 (hnx.out w2 hB2H.out).2.1)
  go_upto_region 4 with (go_at_call 26; refine hOp.out.mono ?_; rintro e w3 ⟨jb0, rfl, h2, ht2⟩; have hJ3 := hide (show JW K B b z db vb jb0 (RW.dk0 z) [] false w1 w3 from ⟨h2.d, h2.j, hB2H.out.trans h2.bel⟩); clear h2 ht2)
  clear hOp hN hD2 hB2H
  go_wp2
  go_loopw [8, 10, 11] (fun jv uv i wr => ∃ (j jb : Nat), i = .int .i64 j ∧ jv = .pointer (some ⟨jb, 0, none⟩) ∧ j ≤ m ∧ j ≤ 20 ∧ Hid (KpR K B b z db vb jb uv w1 wr)) (fun _ _ i _ => 20 - (intOf i).toNat)
  case atStart => exact ⟨0, jb0, rfl, rfl, Nat.zero_le _, Nat.zero_le _, ⟨⟨RW.dk0 z, [], false, [], hJ3.out, strs_nil _ _, .live (RW.inv_dk0 z), List.nil_prefix⟩⟩⟩
  case round =>
    rename_i uv _
    obtain ⟨j, jb, rfl, rfl, hj, hj20, hQ⟩ := hrel
    obtain ⟨wo, hwo⟩ : ∃ wo, wo = wr := ⟨_, rfl⟩
    subst hwo
    obtain ⟨S, rs, br, sure, hJ, hu, hS, hpre⟩ := hQ.out.out
    have hJ := hide hJ
    have hS := hide hS
    have hpre := hide hpre
    obtain ⟨ua, uc, euv⟩ := own_shape hu
    obtain ⟨sl, hsl⟩ : ∃ sl, sl = sure.length := ⟨_, rfl⟩
    rw [← hsl] at euv
    subst euv
    have hu := hide hu
    have hslH := hide hsl
    clear hQ hJ3 hsl
    by_cases hjm : j < m
    · by_cases hj7 : j < 20
      · obtain ⟨x, hx⟩ : ∃ x, os[j]? = some x := ⟨_, List.getElem?_eq_getElem (by rw [← hmH.out]; exact hjm)⟩
        obtain ⟨g0, o0, gc', e', _, _, _, _, hG0⟩ := ops_cell (by have h := (hnx.out wo hJ.out.bel).2.2; rw [hmH.out] at h; exact h) hx
        cases e'
        obtain ⟨xk, xlv, xl, xn, xkv, xkeep⟩ := x
        obtain ⟨pa, pc, epv, _⟩ := id hG0.1
        obtain ⟨ka, kcap, ekv, _⟩ := id hG0.2.2.1
        obtain ⟨pn, hpnE⟩ : ∃ pn, pn = xl.length := ⟨_, rfl⟩
        obtain ⟨q, hqE⟩ : ∃ q, q = xkeep.length := ⟨_, rfl⟩
        change xlv = Value.slice pa xl.length pc at epv
        change xkv = Value.slice ka xkeep.length kcap at ekv
        rw [← hpnE] at epv
        rw [← hqE] at ekv
        subst epv ekv
        have hbd := hide hG0.2.2.2.2
        have hcl := hide (fun W (hW : Below B w1 W) => (show W.cell? ⟨g0, o0 + j * 4, none⟩ = some (.int .i64 xk) ∧ W.cell? ⟨g0, o0 + j * 4 + 1, none⟩ = some (.slice pa pn pc) ∧ W.cell? ⟨g0, o0 + j * 4 + 2, none⟩ = some (.int .i64 xn) ∧ W.cell? ⟨g0, o0 + j * 4 + 3, none⟩ = some (.slice ka q kcap) ∧ StrR W (.slice pa pn pc) xl ∧ IntR W (.slice ka q kcap) xkeep from by
          obtain ⟨g1, o1, c1, e1, h1, h2, h3, h4, h5⟩ := ops_cell (by have h := (hnx.out W hW).2.2; rw [hmH.out] at h; exact h) hx
          cases e1
          exact ⟨h1, h2, h3, h4, h5.1, h5.2.2.1⟩))
        have hpnH := hide (show xl.length ≤ 9223372036854775807 from hG0.2.1)
        have hqH := hide hqE
        have hqb := hide (row_cap (hcl.out wo hJ.out.bel).2.2.2.2.2)
        clear hx hG0 hpnE hqE
        obtain ⟨L, hLe⟩ : ∃ L, L = RW.fewL xl := ⟨_, rfl⟩
        have hLl := hide (show L.length ≤ 6 by rw [hLe]; exact RW.fewL_len xl)
        have hLs := hide (show ∀ r ∈ L, r.size ≤ 65536 by rw [hLe]; exact fun r hr => by have := RW.fewL_size xl r hr; omega)
        have hFw := hide (fun W (hW : Below B w1 W) => (show Calls Tryz.prog 12 #[.slice pa pn pc] W fun e w' => ∃ u, e = .returned u ∧ StrsOwn w' W.heap.size u L ∧ Below W.heap.size W w' from by rw [hLe]; exact few_any _ xl W (hcl.out W hW).2.2.2.2.1 hpnH.out))
        clear hLe
        have hPk := hide (fun W => pick_any xk 8 hbd.out.1.1 hbd.out.1.2 (by decide) (by decide) W)
        obtain ⟨pk, hpk⟩ : ∃ pk, pk = RW.pickI xk 8 := ⟨_, rfl⟩
        have hpkb1 : 0 ≤ pk := by rw [hpk]; exact (RW.pickI_bd xk 8 (by decide)).1
        have hpkb2 : pk < 8 := by rw [hpk]; exact (RW.pickI_bd xk 8 (by decide)).2
        rw [← hpk] at hPk
        clear hpk
        have hck : wo.cell? ⟨g0, o0 + j * 4, none⟩ = some (.int .i64 xk) := (hcl.out wo hJ.out.bel).1
        go_upto_region 14 with (go_at_call 15; refine (hPk.out _).mono ?_; rintro e w' ⟨rfl, rfl⟩)
        clear hck hPk
        by_cases hp5 : pk = 5
        · subst hp5
          obtain ⟨kc, hkc, hkc1, hkc3⟩ := RW.pick_nat xn 5 (by decide)
          have hPk := hide (fun W => pick_any xn 5 hbd.out.2.1 hbd.out.2.2 (by decide) (by decide) W)
          obtain ⟨pd, hpd⟩ : ∃ pd, pd = RW.pickI xn 5 := ⟨_, rfl⟩
          have hpd1 : 0 ≤ pd := by rw [hpd]; exact (RW.pickI_bd xn 5 (by decide)).1
          have hpd2 : pd < 5 := by rw [hpd]; exact (RW.pickI_bd xn 5 (by decide)).2
          rw [← hpd] at hPk hkc
          have hkcH := hide hkc
          clear hpd hkc
          have hCu := hide (show Calls Tryz.prog 30 #[.pointer (some ⟨b, 0, none⟩), .int .i64 (1 + pd)] wo fun e w' => e = .returned (.int .i64 (S.cut (kc : Int)).1) ∧ JW K B b z db vb jb (S.cut (kc : Int)).2 rs br w1 w' ∧ StrsOwn w' B (.slice ua sl uc) sure from by
            rw [hkcH.out]
            refine (hJ.out.cut (kc : Int) (by omega)).mono ?_
            rintro e w' ⟨g1, g2, _, g4⟩
            exact ⟨g1, g2, own_tchJ hu.out hJ.out (.of_tch g4)⟩)
          have hS5 := hide (hS.out.cut kc hkc1)
          have hck : wo.cell? ⟨g0, o0 + j * 4 + 2, none⟩ = some (.int .i64 xn) := (hcl.out wo hJ.out.bel).2.2.1
          obtain ⟨f5, hf5⟩ : ∃ f, f = (S.cut (kc : Int)).1 := ⟨_, rfl⟩
          obtain ⟨S5, hS5e⟩ : ∃ S5, S5 = (S.cut (kc : Int)).2 := ⟨_, rfl⟩
          rw [← hf5, ← hS5e] at hCu
          rw [← hS5e] at hS5
          clear hf5 hS5e
          go_upto_region 24 with (first
            | (go_at_call 15; refine (hPk.out _).mono ?_; rintro e w' ⟨rfl, rfl⟩)
            | (go_at_call 30; refine hCu.out.mono ?_; rintro e w6 ⟨rfl, h2, h3⟩; have hJ6 := hide h2; have hu6 := hide h3; clear h2 h3))
          clear hck hPk hCu hJ hu
          have hRc := hide (hJ6.out.records hS5.out.fits)
          have hrsl := hide (show (rs).length ≤ 1500 by have := RW.stos_ge (RW.sha K) (rs) RW.z32; have := hS5.out.fits; have := hzb.out.2; omega)
          obtain ⟨tl, htl⟩ : ∃ tl, tl = (rs).length := ⟨_, rfl⟩
          have hle : sl ≤ tl := by rw [htl, hslH.out]; exact hpre.out.length_le
          have hnlt : decide ((tl : Int) < (sl : Int)) = false := decide_eq_false (by omega)
          have htlH := hide htl
          clear htl
          go_upto_region 25 with (go_at_call 20; refine hRc.out.mono ?_; rintro e w20 ⟨ur, rfl, h3, h4, h5⟩; obtain ⟨ra, rc, eur⟩ := own_shape h3; rw [← htlH.out] at eur; subst eur; have hur := hide (strs_own h3); have hJ20 := hide h4; have hu20 := hide (own_keep hu6.out fun g hg => h5.block g (own_blk hu6.out hg).2.1); clear h3 h4 h5)
          have hrcap := hide (row_cap hur.out)
          have hSm := hide (fun W (h : Below w20.heap.size w20 W) => (show Calls Tryz.prog 19 #[.slice ra sl rc, .slice ua sl uc] W fun e w' => e = .returned (.bool true) ∧ Below W.heap.size W w' from by
            have h1 := strs_first (RowV.next hur.out h) (m := sl) (by rw [← htlH.out]; exact hle)
            rw [show (rs).take sl = sure by rw [hslH.out]; exact (List.prefix_iff_eq_take.1 hpre.out).symm] at h1
            have := same20_any _ _ _ _ W h1 (RowV.next (strs_own hu20.out) h) (by have := hrsl.out; have := hpre.out.length_le; omega) (by have := hrsl.out; have := hpre.out.length_le; omega)
            rw [decide_eq_true rfl] at this
            exact this))
          have hrcb := hrcap.out
          go_wp2_with (go_at_call 19; refine (hSm.out _ (Below.refl _ _)).mono ?_; rintro e w21 ⟨rfl, h5⟩; have hJ21 := hide (hJ20.out.next h5); have hu21 := hide (own_keep hu20.out fun g hg => h5.block g (own_blk hu20.out hg).2.1); clear h5)
          go_roundw
          case rel => exact ⟨j + 1, jb, by go_num, rfl, by omega, by omega, ⟨⟨S5, rs, br, sure, hJ21.out, hu21.out, hS5.out, hpre.out⟩⟩⟩
          case measure => simp [intOf]; omega
        · by_cases hp6 : pk = 6
          · subst hp6
            have hck3 := hide (fun W (h : Below B w1 W) => (hcl.out W h).2.2.2)
            have hck2 := hide (fun W (h : Below B w1 W) => (hcl.out W h).2.2.1)
            obtain ⟨c1, q1, hcr, hLi⟩ := hS.out.crash (xkeep.take 20) xn
            have hLi := hide hLi
            have hcr := hide hcr
            have hCr := hide (fun W (h : JW K B b z db vb jb S rs br w1 W) => (show Calls Tryz.prog 31 #[.pointer (some ⟨b, 0, none⟩), .slice ka (min q 20) kcap, .int .i64 xn] W fun e w' => e = .returned (.int .i64 0) ∧ JW K B b z db vb jb ⟨false, 0, c1, c1, []⟩ rs br w1 w' ∧ Tch b db vb W w' from by
              refine (h.crash hS.out.ok xn (by rw [List.length_take]; omega) (ints_rowJ (ints_first (hck3.out W h.bel).2.2 hqH.out))).mono ?_
              rintro e w' ⟨g1, g2, _, g4⟩
              rw [hcr.out] at g2
              exact ⟨g1, g2, g4⟩))
            go_upto_region 18 with fail
            refine wp_region_k (fun _ W => Below B w1 W) (fun W => JW K B b z db vb jb S rs br w1 W ∧ StrsOwn W B (.slice ua sl uc) sure) [19] (.op 0 (.op 1 (.op 2 (.op 3 (.op 4 (.op 5 (.op 6 (.op 7 (.op 8 (.op 9 (.op 10 (.op 11 (.op 12 (.op 13 (.op 14 (.op 15 (.op 16 (.op 17 (.op 18 (.op 19 .nil)))))))))))))))))))) (by kernel_rfl) (by kernel_rfl) (by rfl) (by kernel_rfl) (hJ.out.bel.drew) ⟨hJ.out.next ((Below.refl _ _).drew), own_keep hu.out fun _ _ => rfl⟩ ?_
            refine k_val (.pointer (some ⟨b, 0, none⟩)) (by apply opN; repeat' (first | apply OpAt.z | apply OpAt.s)) (by rfl) (by rfl) (fun _ W hS => op_mv rfl rfl) ?_
            simp only [Act.put, List.setIfInBounds_toArray, List.set_cons_zero, List.set_cons_succ]
            refine k_val (.slice (some ⟨g0, o0, none⟩) m gc) (by apply opN; repeat' (first | apply OpAt.z | apply OpAt.s)) (by rfl) (by rfl) (fun _ W hS => op_mv rfl rfl) ?_
            simp only [Act.put, List.setIfInBounds_toArray, List.set_cons_zero, List.set_cons_succ]
            refine k_val (.int .i64 (j : Int)) (by apply opN; repeat' (first | apply OpAt.z | apply OpAt.s)) (by rfl) (by rfl) (fun _ W hS => op_mv rfl rfl) ?_
            simp only [Act.put, List.setIfInBounds_toArray, List.set_cons_zero, List.set_cons_succ]
            refine k_val (.pointer (some ⟨g0, o0 + j * 4, none⟩)) (by apply opN; repeat' (first | apply OpAt.z | apply OpAt.s)) (by rfl) (by rfl) (fun _ W hS => op_idx_o rfl rfl rfl hjm) ?_
            simp only [Act.put, List.setIfInBounds_toArray, List.set_cons_zero, List.set_cons_succ]
            refine k_val (.pointer (some ⟨g0, o0 + j * 4 + 3, none⟩)) (by apply opN; repeat' (first | apply OpAt.z | apply OpAt.s)) (by rfl) (by rfl) (fun _ W hS => op_fa_o3 rfl rfl) ?_
            simp only [Act.put, List.setIfInBounds_toArray, List.set_cons_zero, List.set_cons_succ]
            refine k_val (.slice ka q kcap) (by apply opN; repeat' (first | apply OpAt.z | apply OpAt.s)) (by rfl) (by rfl) (fun _ W hS => op_ld rfl rfl (isl_ld (hck3.out W hS).1)) ?_
            simp only [Act.put, List.setIfInBounds_toArray, List.set_cons_zero, List.set_cons_succ]
            refine k_val (.slice (some ⟨g0, o0, none⟩) m gc) (by apply opN; repeat' (first | apply OpAt.z | apply OpAt.s)) (by rfl) (by rfl) (fun _ W hS => op_mv rfl rfl) ?_
            simp only [Act.put, List.setIfInBounds_toArray, List.set_cons_zero, List.set_cons_succ]
            refine k_val (.int .i64 (j : Int)) (by apply opN; repeat' (first | apply OpAt.z | apply OpAt.s)) (by rfl) (by rfl) (fun _ W hS => op_mv rfl rfl) ?_
            simp only [Act.put, List.setIfInBounds_toArray, List.set_cons_zero, List.set_cons_succ]
            refine k_val (.pointer (some ⟨g0, o0 + j * 4, none⟩)) (by apply opN; repeat' (first | apply OpAt.z | apply OpAt.s)) (by rfl) (by rfl) (fun _ W hS => op_idx_o rfl rfl rfl hjm) ?_
            simp only [Act.put, List.setIfInBounds_toArray, List.set_cons_zero, List.set_cons_succ]
            refine k_val (.pointer (some ⟨g0, o0 + j * 4 + 3, none⟩)) (by apply opN; repeat' (first | apply OpAt.z | apply OpAt.s)) (by rfl) (by rfl) (fun _ W hS => op_fa_o3 rfl rfl) ?_
            simp only [Act.put, List.setIfInBounds_toArray, List.set_cons_zero, List.set_cons_succ]
            refine k_val (.slice ka q kcap) (by apply opN; repeat' (first | apply OpAt.z | apply OpAt.s)) (by rfl) (by rfl) (fun _ W hS => op_ld rfl rfl (isl_ld (hck3.out W hS).1)) ?_
            simp only [Act.put, List.setIfInBounds_toArray, List.set_cons_zero, List.set_cons_succ]
            refine k_val (.int .i64 (q : Int)) (by apply opN; repeat' (first | apply OpAt.z | apply OpAt.s)) (by rfl) (by rfl) (fun _ W hS => op_leni rfl rfl) ?_
            simp only [Act.put, List.setIfInBounds_toArray, List.set_cons_zero, List.set_cons_succ]
            refine k_val (.int .i64 ((min q 20 : Nat) : Int)) (by apply opN; repeat' (first | apply OpAt.z | apply OpAt.s)) (by rfl) (by rfl) (fun _ W hS => op_min20 rfl rfl rfl) ?_
            simp only [Act.put, List.setIfInBounds_toArray, List.set_cons_zero, List.set_cons_succ]
            refine k_val (.slice ka (min q 20) kcap) (by apply opN; repeat' (first | apply OpAt.z | apply OpAt.s)) (by rfl) (by rfl) (fun _ W hS => op_hi_i rfl rfl rfl (Nat.le_trans (Nat.min_le_left _ _) hqb.out)) ?_
            simp only [Act.put, List.setIfInBounds_toArray, List.set_cons_zero, List.set_cons_succ]
            refine k_val (.slice (some ⟨g0, o0, none⟩) m gc) (by apply opN; repeat' (first | apply OpAt.z | apply OpAt.s)) (by rfl) (by rfl) (fun _ W hS => op_mv rfl rfl) ?_
            simp only [Act.put, List.setIfInBounds_toArray, List.set_cons_zero, List.set_cons_succ]
            refine k_val (.int .i64 (j : Int)) (by apply opN; repeat' (first | apply OpAt.z | apply OpAt.s)) (by rfl) (by rfl) (fun _ W hS => op_mv rfl rfl) ?_
            simp only [Act.put, List.setIfInBounds_toArray, List.set_cons_zero, List.set_cons_succ]
            refine k_val (.pointer (some ⟨g0, o0 + j * 4, none⟩)) (by apply opN; repeat' (first | apply OpAt.z | apply OpAt.s)) (by rfl) (by rfl) (fun _ W hS => op_idx_o rfl rfl rfl hjm) ?_
            simp only [Act.put, List.setIfInBounds_toArray, List.set_cons_zero, List.set_cons_succ]
            refine k_val (.pointer (some ⟨g0, o0 + j * 4 + 2, none⟩)) (by apply opN; repeat' (first | apply OpAt.z | apply OpAt.s)) (by rfl) (by rfl) (fun _ W hS => op_fa_o2 rfl rfl) ?_
            simp only [Act.put, List.setIfInBounds_toArray, List.set_cons_zero, List.set_cons_succ]
            refine k_val (.int .i64 xn) (by apply opN; repeat' (first | apply OpAt.z | apply OpAt.s)) (by rfl) (by rfl) (fun _ W hS => op_ld rfl rfl (ildJ (hck2.out W hS))) ?_
            simp only [Act.put, List.setIfInBounds_toArray, List.set_cons_zero, List.set_cons_succ]
            refine k_step (fun K' u => K' = fun W => JW K B b z db vb jb ⟨false, 0, c1, c1, []⟩ rs br w1 W ∧ StrsOwn W B (.slice ua sl uc) sure) (by apply opN; repeat' (first | apply OpAt.z | apply OpAt.s)) (by rfl) (by rfl) (by rfl) (fun W hC hK => ?_) ?_
            · refine op_x3 (a := .pointer (some ⟨b, 0, none⟩)) (b := .slice ka (min q 20) kcap) (c := .int .i64 xn) rfl rfl rfl rfl rfl cf_crash ?_
              refine (hCr.out W hK.1).mono ?_
              rintro e w' ⟨rfl, g2, g3⟩
              exact ⟨_, rfl, g2.bel, _, ⟨g2, own_tchJ hK.2 hK.1 (.of_tch g3)⟩, rfl⟩
            rintro _ _ rfl
            simp only [Act.put, List.setIfInBounds_toArray, List.set_cons_zero, List.set_cons_succ]
            refine k_nil ?_
            intro W hCW hK
            go_upto_region 19 with fail
            have hJ5 := hide hK.1
            have hu5 := hide hK.2
            obtain ⟨w5, hw5⟩ : ∃ w5, w5 = W := ⟨_, rfl⟩
            subst hw5
            clear hCW hK hCr hJ hu
            have hOl := hide (open_lies hks hJ5.out hLi.out (hnx.out _ hJ5.out.bel).1 (hnx.out _ hJ5.out.bel).2.1)
            go_upto_region 20 with (go_at_call 26; refine hOl.out.mono ?_; rintro e w6 ⟨j2, S2, rfl, h1, h2, h3, h4, _⟩; have hI6 := hide h1; have hJ6 := hide (show JW K B b z db vb j2 S2 (rs ++ q1) false w1 w6 from h3); have hu6 := hide (own_tchJ hu5.out hJ5.out (.of_tch h4)); clear h1 h2 h3 h4)
            clear hOl hJ5 hu5
            have hRc6 := hide (fun W (h : JW K B b z db vb j2 S2 (rs ++ q1) false w1 W) => h.records hI6.out.fits)
            obtain ⟨tl6, htl6⟩ : ∃ tl, tl = (rs ++ q1).length := ⟨_, rfl⟩
            have hle6 : sl ≤ tl6 := by rw [htl6, hslH.out, List.length_append]; have := hpre.out.length_le; omega
            have hnlt6 : decide ((tl6 : Int) < (sl : Int)) = false := decide_eq_false (by omega)
            have htl6H := hide htl6
            clear htl6
            go_upto_region 22 with (go_at_call 20; refine (hRc6.out _ hJ6.out).mono ?_; rintro e w7 ⟨ur7, rfl, h3, h4, h5⟩; obtain ⟨ra7, rc7, eur7⟩ := own_shape h3; rw [← htl6H.out] at eur7; subst eur7; have hJ7 := hide h4; clear h3 h4 h5)
            clear hJ6 hu6
            go_upto_region 23 with fail
            obtain ⟨N1, hN1⟩ : ∃ N1, N1 = w7.heap.size := ⟨_, rfl⟩
            have hN1B := hide (show B ≤ N1 by rw [hN1]; exact hJ7.out.hB)
            have hRc7 := hide (hRc6.out _ hJ7.out)
            rw [← hN1] at hRc7
            clear hN1
            go_upto_region 24 with (go_at_call 20; refine hRc7.out.mono ?_; rintro e w8 ⟨ur8, rfl, h3, h4, h5⟩; obtain ⟨ra8, rc8, eur8⟩ := own_shape h3; rw [← htl6H.out] at eur8; subst eur8; have hu8 := hide (own_base h3 hN1B.out); have hJ8 := hide h4; clear h3 h4 h5)
            clear hRc7 hRc6 hJ7
            have hS8 := hide (RW.KpS.live hI6.out)
            have hpr8 := hide (show (rs ++ q1) <+: (rs ++ q1) from List.prefix_rfl)
            have hRc := hide (hJ8.out.records hS8.out.fits)
            have hrsl := hide (show (rs ++ q1).length ≤ 1500 by have := RW.stos_ge (RW.sha K) (rs ++ q1) RW.z32; have := hS8.out.fits; have := hzb.out.2; omega)
            obtain ⟨tl, htl⟩ : ∃ tl, tl = (rs ++ q1).length := ⟨_, rfl⟩
            have hle : tl6 ≤ tl := by rw [htl, htl6H.out]; exact hpr8.out.length_le
            have hnlt : decide ((tl : Int) < (tl6 : Int)) = false := decide_eq_false (by omega)
            have htlH := hide htl
            clear htl
            go_upto_region 25 with (go_at_call 20; refine hRc.out.mono ?_; rintro e w20 ⟨ur, rfl, h3, h4, h5⟩; obtain ⟨ra, rc, eur⟩ := own_shape h3; rw [← htlH.out] at eur; subst eur; have hur := hide (strs_own h3); have hJ20 := hide h4; have hu20 := hide (own_keep hu8.out fun g hg => h5.block g (own_blk hu8.out hg).2.1); clear h3 h4 h5)
            have hrcap := hide (row_cap hur.out)
            have hSm := hide (fun W (h : Below w20.heap.size w20 W) => (show Calls Tryz.prog 19 #[.slice ra tl6 rc, .slice ra8 tl6 rc8] W fun e w' => e = .returned (.bool true) ∧ Below W.heap.size W w' from by
              have h1 := strs_first (RowV.next hur.out h) (m := tl6) (by rw [← htlH.out]; exact hle)
              rw [show (rs ++ q1).take tl6 = (rs ++ q1) by rw [htl6H.out]; exact (List.prefix_iff_eq_take.1 hpr8.out).symm] at h1
              have := same20_any _ _ _ _ W h1 (RowV.next (strs_own hu20.out) h) (by have := hrsl.out; have := hpr8.out.length_le; omega) (by have := hrsl.out; have := hpr8.out.length_le; omega)
              rw [decide_eq_true rfl] at this
              exact this))
            have hrcb := hrcap.out
            go_wp2_with (go_at_call 19; refine (hSm.out _ (Below.refl _ _)).mono ?_; rintro e w21 ⟨rfl, h5⟩; have hJ21 := hide (hJ20.out.next h5); have hu21 := hide (own_keep hu20.out fun g hg => h5.block g (own_blk hu20.out hg).2.1); clear h5)
            go_roundw
            case rel => exact ⟨j + 1, j2, by go_num, rfl, by omega, by omega, ⟨⟨S2, rs ++ q1, false, (rs ++ q1), hJ21.out, hu21.out, hS8.out, hpr8.out⟩⟩⟩
            case measure => simp [intOf]; omega
          · by_cases hp7 : pk = 7
            · subst hp7
              have hck3 := hide (fun W (h : Below B w1 W) => (hcl.out W h).2.2.2)
              have hck2 := hide (fun W (h : Below B w1 W) => (hcl.out W h).2.2.1)
              obtain ⟨c1, q1, hcr, hLi⟩ := hS.out.crash (xkeep.take 20) xn
              have hLi := hide hLi
              have hcr := hide hcr
              have hCr := hide (fun W (h : JW K B b z db vb jb S rs br w1 W) => (show Calls Tryz.prog 31 #[.pointer (some ⟨b, 0, none⟩), .slice ka (min q 20) kcap, .int .i64 xn] W fun e w' => e = .returned (.int .i64 0) ∧ JW K B b z db vb jb ⟨false, 0, c1, c1, []⟩ rs br w1 w' ∧ Tch b db vb W w' from by
                refine (h.crash hS.out.ok xn (by rw [List.length_take]; omega) (ints_rowJ (ints_first (hck3.out W h.bel).2.2 hqH.out))).mono ?_
                rintro e w' ⟨g1, g2, _, g4⟩
                rw [hcr.out] at g2
                exact ⟨g1, g2, g4⟩))
              go_upto_region 18 with fail
              refine wp_region_k (fun _ W => Below B w1 W) (fun W => JW K B b z db vb jb S rs br w1 W ∧ StrsOwn W B (.slice ua sl uc) sure) [19] (.op 0 (.op 1 (.op 2 (.op 3 (.op 4 (.op 5 (.op 6 (.op 7 (.op 8 (.op 9 (.op 10 (.op 11 (.op 12 (.op 13 (.op 14 (.op 15 (.op 16 (.op 17 (.op 18 (.op 19 .nil)))))))))))))))))))) (by kernel_rfl) (by kernel_rfl) (by rfl) (by kernel_rfl) (hJ.out.bel.drew) ⟨hJ.out.next ((Below.refl _ _).drew), own_keep hu.out fun _ _ => rfl⟩ ?_
              refine k_val (.pointer (some ⟨b, 0, none⟩)) (by apply opN; repeat' (first | apply OpAt.z | apply OpAt.s)) (by rfl) (by rfl) (fun _ W hS => op_mv rfl rfl) ?_
              simp only [Act.put, List.setIfInBounds_toArray, List.set_cons_zero, List.set_cons_succ]
              refine k_val (.slice (some ⟨g0, o0, none⟩) m gc) (by apply opN; repeat' (first | apply OpAt.z | apply OpAt.s)) (by rfl) (by rfl) (fun _ W hS => op_mv rfl rfl) ?_
              simp only [Act.put, List.setIfInBounds_toArray, List.set_cons_zero, List.set_cons_succ]
              refine k_val (.int .i64 (j : Int)) (by apply opN; repeat' (first | apply OpAt.z | apply OpAt.s)) (by rfl) (by rfl) (fun _ W hS => op_mv rfl rfl) ?_
              simp only [Act.put, List.setIfInBounds_toArray, List.set_cons_zero, List.set_cons_succ]
              refine k_val (.pointer (some ⟨g0, o0 + j * 4, none⟩)) (by apply opN; repeat' (first | apply OpAt.z | apply OpAt.s)) (by rfl) (by rfl) (fun _ W hS => op_idx_o rfl rfl rfl hjm) ?_
              simp only [Act.put, List.setIfInBounds_toArray, List.set_cons_zero, List.set_cons_succ]
              refine k_val (.pointer (some ⟨g0, o0 + j * 4 + 3, none⟩)) (by apply opN; repeat' (first | apply OpAt.z | apply OpAt.s)) (by rfl) (by rfl) (fun _ W hS => op_fa_o3 rfl rfl) ?_
              simp only [Act.put, List.setIfInBounds_toArray, List.set_cons_zero, List.set_cons_succ]
              refine k_val (.slice ka q kcap) (by apply opN; repeat' (first | apply OpAt.z | apply OpAt.s)) (by rfl) (by rfl) (fun _ W hS => op_ld rfl rfl (isl_ld (hck3.out W hS).1)) ?_
              simp only [Act.put, List.setIfInBounds_toArray, List.set_cons_zero, List.set_cons_succ]
              refine k_val (.slice (some ⟨g0, o0, none⟩) m gc) (by apply opN; repeat' (first | apply OpAt.z | apply OpAt.s)) (by rfl) (by rfl) (fun _ W hS => op_mv rfl rfl) ?_
              simp only [Act.put, List.setIfInBounds_toArray, List.set_cons_zero, List.set_cons_succ]
              refine k_val (.int .i64 (j : Int)) (by apply opN; repeat' (first | apply OpAt.z | apply OpAt.s)) (by rfl) (by rfl) (fun _ W hS => op_mv rfl rfl) ?_
              simp only [Act.put, List.setIfInBounds_toArray, List.set_cons_zero, List.set_cons_succ]
              refine k_val (.pointer (some ⟨g0, o0 + j * 4, none⟩)) (by apply opN; repeat' (first | apply OpAt.z | apply OpAt.s)) (by rfl) (by rfl) (fun _ W hS => op_idx_o rfl rfl rfl hjm) ?_
              simp only [Act.put, List.setIfInBounds_toArray, List.set_cons_zero, List.set_cons_succ]
              refine k_val (.pointer (some ⟨g0, o0 + j * 4 + 3, none⟩)) (by apply opN; repeat' (first | apply OpAt.z | apply OpAt.s)) (by rfl) (by rfl) (fun _ W hS => op_fa_o3 rfl rfl) ?_
              simp only [Act.put, List.setIfInBounds_toArray, List.set_cons_zero, List.set_cons_succ]
              refine k_val (.slice ka q kcap) (by apply opN; repeat' (first | apply OpAt.z | apply OpAt.s)) (by rfl) (by rfl) (fun _ W hS => op_ld rfl rfl (isl_ld (hck3.out W hS).1)) ?_
              simp only [Act.put, List.setIfInBounds_toArray, List.set_cons_zero, List.set_cons_succ]
              refine k_val (.int .i64 (q : Int)) (by apply opN; repeat' (first | apply OpAt.z | apply OpAt.s)) (by rfl) (by rfl) (fun _ W hS => op_leni rfl rfl) ?_
              simp only [Act.put, List.setIfInBounds_toArray, List.set_cons_zero, List.set_cons_succ]
              refine k_val (.int .i64 ((min q 20 : Nat) : Int)) (by apply opN; repeat' (first | apply OpAt.z | apply OpAt.s)) (by rfl) (by rfl) (fun _ W hS => op_min20 rfl rfl rfl) ?_
              simp only [Act.put, List.setIfInBounds_toArray, List.set_cons_zero, List.set_cons_succ]
              refine k_val (.slice ka (min q 20) kcap) (by apply opN; repeat' (first | apply OpAt.z | apply OpAt.s)) (by rfl) (by rfl) (fun _ W hS => op_hi_i rfl rfl rfl (Nat.le_trans (Nat.min_le_left _ _) hqb.out)) ?_
              simp only [Act.put, List.setIfInBounds_toArray, List.set_cons_zero, List.set_cons_succ]
              refine k_val (.slice (some ⟨g0, o0, none⟩) m gc) (by apply opN; repeat' (first | apply OpAt.z | apply OpAt.s)) (by rfl) (by rfl) (fun _ W hS => op_mv rfl rfl) ?_
              simp only [Act.put, List.setIfInBounds_toArray, List.set_cons_zero, List.set_cons_succ]
              refine k_val (.int .i64 (j : Int)) (by apply opN; repeat' (first | apply OpAt.z | apply OpAt.s)) (by rfl) (by rfl) (fun _ W hS => op_mv rfl rfl) ?_
              simp only [Act.put, List.setIfInBounds_toArray, List.set_cons_zero, List.set_cons_succ]
              refine k_val (.pointer (some ⟨g0, o0 + j * 4, none⟩)) (by apply opN; repeat' (first | apply OpAt.z | apply OpAt.s)) (by rfl) (by rfl) (fun _ W hS => op_idx_o rfl rfl rfl hjm) ?_
              simp only [Act.put, List.setIfInBounds_toArray, List.set_cons_zero, List.set_cons_succ]
              refine k_val (.pointer (some ⟨g0, o0 + j * 4 + 2, none⟩)) (by apply opN; repeat' (first | apply OpAt.z | apply OpAt.s)) (by rfl) (by rfl) (fun _ W hS => op_fa_o2 rfl rfl) ?_
              simp only [Act.put, List.setIfInBounds_toArray, List.set_cons_zero, List.set_cons_succ]
              refine k_val (.int .i64 xn) (by apply opN; repeat' (first | apply OpAt.z | apply OpAt.s)) (by rfl) (by rfl) (fun _ W hS => op_ld rfl rfl (ildJ (hck2.out W hS))) ?_
              simp only [Act.put, List.setIfInBounds_toArray, List.set_cons_zero, List.set_cons_succ]
              refine k_step (fun K' u => K' = fun W => JW K B b z db vb jb ⟨false, 0, c1, c1, []⟩ rs br w1 W ∧ StrsOwn W B (.slice ua sl uc) sure) (by apply opN; repeat' (first | apply OpAt.z | apply OpAt.s)) (by rfl) (by rfl) (by rfl) (fun W hC hK => ?_) ?_
              · refine op_x3 (a := .pointer (some ⟨b, 0, none⟩)) (b := .slice ka (min q 20) kcap) (c := .int .i64 xn) rfl rfl rfl rfl rfl cf_crash ?_
                refine (hCr.out W hK.1).mono ?_
                rintro e w' ⟨rfl, g2, g3⟩
                exact ⟨_, rfl, g2.bel, _, ⟨g2, own_tchJ hK.2 hK.1 (.of_tch g3)⟩, rfl⟩
              rintro _ _ rfl
              simp only [Act.put, List.setIfInBounds_toArray, List.set_cons_zero, List.set_cons_succ]
              refine k_nil ?_
              intro W hCW hK
              go_upto_region 19 with fail
              have hJ5 := hide hK.1
              have hu5 := hide hK.2
              obtain ⟨w5, hw5⟩ : ∃ w5, w5 = W := ⟨_, rfl⟩
              subst hw5
              clear hCW hK hCr hJ hu
              have hOl := hide (open_lies hks hJ5.out hLi.out (hnx.out _ hJ5.out.bel).1 (hnx.out _ hJ5.out.bel).2.1)
              go_upto_region 20 with (go_at_call 26; refine hOl.out.mono ?_; rintro e w6 ⟨j2, S2, rfl, h1, h2, h3, h4, _⟩; have hI6 := hide h1; have hJ6 := hide (show JW K B b z db vb j2 S2 (rs ++ q1) false w1 w6 from h3); have hu6 := hide (own_tchJ hu5.out hJ5.out (.of_tch h4)); clear h1 h2 h3 h4)
              clear hOl hJ5 hu5
              have hRc6 := hide (fun W (h : JW K B b z db vb j2 S2 (rs ++ q1) false w1 W) => h.records hI6.out.fits)
              obtain ⟨tl6, htl6⟩ : ∃ tl, tl = (rs ++ q1).length := ⟨_, rfl⟩
              have hle6 : sl ≤ tl6 := by rw [htl6, hslH.out, List.length_append]; have := hpre.out.length_le; omega
              have hnlt6 : decide ((tl6 : Int) < (sl : Int)) = false := decide_eq_false (by omega)
              have htl6H := hide htl6
              clear htl6
              go_upto_region 22 with (go_at_call 20; refine (hRc6.out _ hJ6.out).mono ?_; rintro e w7 ⟨ur7, rfl, h3, h4, h5⟩; obtain ⟨ra7, rc7, eur7⟩ := own_shape h3; rw [← htl6H.out] at eur7; subst eur7; have hJ7 := hide h4; clear h3 h4 h5)
              clear hJ6 hu6
              go_upto_region 23 with fail
              obtain ⟨N1, hN1⟩ : ∃ N1, N1 = w7.heap.size := ⟨_, rfl⟩
              have hN1B := hide (show B ≤ N1 by rw [hN1]; exact hJ7.out.hB)
              have hRc7 := hide (hRc6.out _ hJ7.out)
              rw [← hN1] at hRc7
              clear hN1
              go_upto_region 24 with (go_at_call 20; refine hRc7.out.mono ?_; rintro e w8 ⟨ur8, rfl, h3, h4, h5⟩; obtain ⟨ra8, rc8, eur8⟩ := own_shape h3; rw [← htl6H.out] at eur8; subst eur8; have hu8 := hide (own_base h3 hN1B.out); have hJ8 := hide h4; clear h3 h4 h5)
              clear hRc7 hRc6 hJ7
              have hS8 := hide (RW.KpS.live hI6.out)
              have hpr8 := hide (show (rs ++ q1) <+: (rs ++ q1) from List.prefix_rfl)
              have hRc := hide (hJ8.out.records hS8.out.fits)
              have hrsl := hide (show (rs ++ q1).length ≤ 1500 by have := RW.stos_ge (RW.sha K) (rs ++ q1) RW.z32; have := hS8.out.fits; have := hzb.out.2; omega)
              obtain ⟨tl, htl⟩ : ∃ tl, tl = (rs ++ q1).length := ⟨_, rfl⟩
              have hle : tl6 ≤ tl := by rw [htl, htl6H.out]; exact hpr8.out.length_le
              have hnlt : decide ((tl : Int) < (tl6 : Int)) = false := decide_eq_false (by omega)
              have htlH := hide htl
              clear htl
              go_upto_region 25 with (go_at_call 20; refine hRc.out.mono ?_; rintro e w20 ⟨ur, rfl, h3, h4, h5⟩; obtain ⟨ra, rc, eur⟩ := own_shape h3; rw [← htlH.out] at eur; subst eur; have hur := hide (strs_own h3); have hJ20 := hide h4; have hu20 := hide (own_keep hu8.out fun g hg => h5.block g (own_blk hu8.out hg).2.1); clear h3 h4 h5)
              have hrcap := hide (row_cap hur.out)
              have hSm := hide (fun W (h : Below w20.heap.size w20 W) => (show Calls Tryz.prog 19 #[.slice ra tl6 rc, .slice ra8 tl6 rc8] W fun e w' => e = .returned (.bool true) ∧ Below W.heap.size W w' from by
                have h1 := strs_first (RowV.next hur.out h) (m := tl6) (by rw [← htlH.out]; exact hle)
                rw [show (rs ++ q1).take tl6 = (rs ++ q1) by rw [htl6H.out]; exact (List.prefix_iff_eq_take.1 hpr8.out).symm] at h1
                have := same20_any _ _ _ _ W h1 (RowV.next (strs_own hu20.out) h) (by have := hrsl.out; have := hpr8.out.length_le; omega) (by have := hrsl.out; have := hpr8.out.length_le; omega)
                rw [decide_eq_true rfl] at this
                exact this))
              have hrcb := hrcap.out
              go_wp2_with (go_at_call 19; refine (hSm.out _ (Below.refl _ _)).mono ?_; rintro e w21 ⟨rfl, h5⟩; have hJ21 := hide (hJ20.out.next h5); have hu21 := hide (own_keep hu20.out fun g hg => h5.block g (own_blk hu20.out hg).2.1); clear h5)
              go_roundw
              case rel => exact ⟨j + 1, j2, by go_num, rfl, by omega, by omega, ⟨⟨S2, rs ++ q1, false, (rs ++ q1), hJ21.out, hu21.out, hS8.out, hpr8.out⟩⟩⟩
              case measure => simp [intOf]; omega
            · have hp567 : True := trivial
              have hRc0 := hide (hJ.out.records hS.out.fits)
              obtain ⟨N1, hN1⟩ : ∃ N1, N1 = wo.heap.size := ⟨_, rfl⟩
              have hN1B := hide (show B ≤ N1 by rw [hN1]; exact hJ.out.hB)
              rw [← hN1] at hRc0
              have hN1H := hide hN1
              clear hN1
              obtain ⟨X, rs', br', S', hap, hS', hcs⟩ := hS.out.app (RW.sha_len K) L hLs.out
              have hap := hide hap
              have hS' := hide hS'
              have hcs := hide hcs
              obtain ⟨rl, hrl⟩ : ∃ rl, rl = rs.length := ⟨_, rfl⟩
              have hrlH := hide hrl
              clear hrl
              go_upto_region 12 with (go_at_call 20; refine hRc0.out.mono ?_; rintro e w4 ⟨uw, rfl, h3, h4, h5⟩; obtain ⟨wa, wc, euw⟩ := own_shape h3; rw [← hrlH.out] at euw; subst euw; have huw := hide (own_base h3 hN1B.out); have hJ4 := hide h4; have hu4 := hide (own_keep hu.out fun g hg => h5.block g (by rw [hN1H.out]; exact (own_blk hu.out hg).2.1)); clear h3 h4 h5)
              clear hRc0 hJ hu
              have hF := hide (hFw.out w4 hJ4.out.bel)
              have hck : w4.cell? ⟨g0, o0 + j * 4 + 1, none⟩ = some (.slice pa pn pc) := (hcl.out w4 hJ4.out.bel).2.1
              have hAp := hide (fun W v (h : JW K B b z db vb jb S rs br w1 W) (hv : StrR W v L) (h1 : StrsOwn W B (.slice wa rl wc) rs) (h2 : StrsOwn W B (.slice ua sl uc) sure) => (show Calls Tryz.prog 11 #[.pointer (some ⟨jb, 0, none⟩), v] W fun e w' => e = .returned (.int .i64 X) ∧ JW K B b z db vb jb S' rs' br' w1 w' ∧ StrsOwn w' B (.slice wa rl wc) rs ∧ StrsOwn w' B (.slice ua sl uc) sure from by
                refine (h.append hks (by have := hS.out.pend; omega) hS.out.fits hv (by have := hLl.out; omega) (hnx.out _ h.bel).1).mono ?_
                rintro e w' ⟨rfl, g2, _, g4⟩
                rw [hap.out] at g2 ⊢
                exact ⟨rfl, g2, own_tchJ h1 h g4, own_tchJ h2 h g4⟩))
              by_cases hX : X = 0
              · subst hX
                obtain ⟨_, rfl⟩ | ⟨h0, _⟩ := hcs.out
                · go_upto_region 13 with (first
                    | (go_at_call 12; refine hF.out.mono ?_; rintro e w7 ⟨uf, rfl, h3, h4⟩; have huf := hide (strs_own h3); have hJ7 := hide (hJ4.out.next h4); have hw7 := hide (own_keep huw.out fun g hg => h4.block g (own_blk huw.out hg).2.1); have hu7 := hide (own_keep hu4.out fun g hg => h4.block g (own_blk hu4.out hg).2.1); clear h3 h4)
                    | (go_at_call 11; refine (hAp.out _ _ hJ7.out huf.out hw7.out hu7.out).mono ?_; rintro e w8 ⟨rfl, h2, h3, h4⟩; have hJ8 := hide h2; have hw8 := hide h3; clear h2 h3 h4))
                  clear hck hF hAp hap hJ4 huw hu4 hJ7 hw7 hu7 huf hcs
                  have hrs0 := hide (show rs.length ≤ 1500 by have := RW.stos_ge (RW.sha K) (rs ++ L) RW.z32; rw [List.length_append] at this; have := hS'.out.fits; have := hzb.out.2; omega)
                  obtain ⟨N, hN⟩ : ∃ N, N = w8.heap.size := ⟨_, rfl⟩
                  have hNH := hide hN
                  have hb0 := hide (show Below N w8 w8 from Below.refl _ _)
                  have hNB := hide (show ∀ W, Below N w8 W → Below B w1 W from fun W h => hJ8.out.bel.trans (h.mono (by rw [hNH.out]; exact hJ8.out.hB)))
                  clear hN
                  refine wp_region_k (fun _ W => Below N w8 W) (fun W => Below N w8 W) [0, 2, 8, 9] (.op 1 (.op 3 (.op 4 (.op 5 (.op 6 (.op 7 (.op 0 (.op 2 (.op 8 (.op 9 (.op 10 .nil))))))))))) (by kernel_rfl) (by kernel_rfl) (by rfl) (by kernel_rfl) (hb0.out.drew) (hb0.out.drew) ?_
                  refine k_val (.slice wa rl wc) (by apply opN; repeat' (first | apply OpAt.z | apply OpAt.s)) (by rfl) (by rfl) (fun _ W hS => op_mv rfl rfl) ?_
                  simp only [Act.put, List.setIfInBounds_toArray, List.set_cons_zero, List.set_cons_succ]
                  refine k_val (.slice (some ⟨g0, o0, none⟩) m gc) (by apply opN; repeat' (first | apply OpAt.z | apply OpAt.s)) (by rfl) (by rfl) (fun _ W hS => op_mv rfl rfl) ?_
                  simp only [Act.put, List.setIfInBounds_toArray, List.set_cons_zero, List.set_cons_succ]
                  refine k_val (.int .i64 (j : Int)) (by apply opN; repeat' (first | apply OpAt.z | apply OpAt.s)) (by rfl) (by rfl) (fun _ W hS => op_mv rfl rfl) ?_
                  simp only [Act.put, List.setIfInBounds_toArray, List.set_cons_zero, List.set_cons_succ]
                  refine k_val (.pointer (some ⟨g0, o0 + j * 4, none⟩)) (by apply opN; repeat' (first | apply OpAt.z | apply OpAt.s)) (by rfl) (by rfl) (fun _ W hS => op_idx_o rfl rfl rfl hjm) ?_
                  simp only [Act.put, List.setIfInBounds_toArray, List.set_cons_zero, List.set_cons_succ]
                  refine k_val (.pointer (some ⟨g0, o0 + j * 4 + 1, none⟩)) (by apply opN; repeat' (first | apply OpAt.z | apply OpAt.s)) (by rfl) (by rfl) (fun _ W hS => op_fa_o1 rfl rfl) ?_
                  simp only [Act.put, List.setIfInBounds_toArray, List.set_cons_zero, List.set_cons_succ]
                  refine k_val (.slice pa pn pc) (by apply opN; repeat' (first | apply OpAt.z | apply OpAt.s)) (by rfl) (by rfl) (fun _ W hS => op_ld rfl rfl (sl_ld (hcl.out W (hNB.out W hS)).2.1)) ?_
                  simp only [Act.put, List.setIfInBounds_toArray, List.set_cons_zero, List.set_cons_succ]
                  refine k_step (fun K' u => ∃ g, u = .slice (some ⟨g, 0, none⟩) 0 0 ∧ K' = fun W => StrsOwn W N (.slice (some ⟨g, 0, none⟩) 0 0) [] ∧ Below N w8 W) (by apply opN; repeat' (first | apply OpAt.z | apply OpAt.s)) (by rfl) (by rfl) (by rfl) (fun W hC hK => ?_) ?_
                  · exact xup_val (op_bs0 rfl) ⟨alloc_bel hC (Nat.le_of_eq hNH.out) _, _, ⟨strs_new0 (by rw [hNH.out]; exact hC.size), alloc_bel hC (Nat.le_of_eq hNH.out) _⟩, W.heap.size, rfl, rfl⟩
                  rintro _ _ ⟨g, rfl, rfl⟩
                  simp only [Act.put, List.setIfInBounds_toArray, List.set_cons_zero, List.set_cons_succ]
                  refine k_step (fun K' u => K' = fun W => StrsOwn W N u rs ∧ Below N w8 W) (by apply opN; repeat' (first | apply OpAt.z | apply OpAt.s)) (by rfl) (by rfl) (by rfl) (fun W hC hK => ?_) ?_
                  · obtain ⟨v', W', hrun, ho', hb', _⟩ := run_app_rowS hK.1 (by rw [hNH.out]; exact hC.size) ((strs_own hw8.out).next (by rw [← hNH.out]; exact hC)) (by have := hrs0.out; simp; omega)
                    rw [List.nil_append] at ho'
                    exact xup_val (op_apps rfl rfl rfl hrun) ⟨hC.trans (hb'), _, ⟨ho', hC.trans (hb')⟩, rfl⟩
                  rintro _ v1 rfl
                  simp only [Act.put, List.setIfInBounds_toArray, List.set_cons_zero, List.set_cons_succ]
                  refine k_step (fun K' u => K' = fun W => StrsOwn W N v1 rs ∧ StrR W u L ∧ Below N w8 W) (by apply opN; repeat' (first | apply OpAt.z | apply OpAt.s)) (by rfl) (by rfl) (by rfl) (fun W hC hK => ?_) ?_
                  · refine op_x1 (n := .slice pa pn pc) rfl rfl rfl cf_few ?_
                    refine (hFw.out W (hNB.out W hC)).mono ?_
                    rintro e w' ⟨u, rfl, h3, h4⟩
                    have hb' := hC.trans (h4.mono (by rw [hNH.out]; exact hC.size))
                    exact ⟨u, rfl, hb', _, ⟨own_keep hK.1 fun g hg => h4.block g (own_blk hK.1 hg).2.1, strs_own h3, hb'⟩, rfl⟩
                  rintro _ u6 rfl
                  simp only [Act.put, List.setIfInBounds_toArray, List.set_cons_zero, List.set_cons_succ]
                  refine k_step (fun K' u => K' = fun W => StrsOwn W N u (rs ++ L) ∧ Below N w8 W) (by apply opN; repeat' (first | apply OpAt.z | apply OpAt.s)) (by rfl) (by rfl) (by rfl) (fun W hC hK => ?_) ?_
                  · obtain ⟨v', W', hrun, ho', hb', _⟩ := run_app_rowS hK.1 (by rw [hNH.out]; exact hC.size) hK.2.1 (by have := hrs0.out; have := hLl.out; omega)
                    exact xup_val (op_apps rfl rfl rfl hrun) ⟨hC.trans hb', _, ⟨ho', hC.trans hb'⟩, rfl⟩
                  rintro _ v2 rfl
                  simp only [Act.put, List.setIfInBounds_toArray, List.set_cons_zero, List.set_cons_succ]
                  refine k_val (v2) (by apply opN; repeat' (first | apply OpAt.z | apply OpAt.s)) (by rfl) (by rfl) (fun _ W hS => op_asg rfl rfl) ?_
                  simp only [Act.put, List.setIfInBounds_toArray, List.set_cons_zero, List.set_cons_succ]
                  refine k_nil ?_
                  intro W hCW hK
                  go_upto_region 24 with fail
                  have hJ9 := hide (hJ8.out.next (by rw [← hNH.out]; exact hK.2))
                  have hv9 := hide (own_base hK.1 (show B ≤ N by rw [hNH.out]; exact hJ8.out.hB))
                  obtain ⟨va, vc, ev2⟩ := own_shape hK.1
                  obtain ⟨vl, hvl⟩ : ∃ vl, vl = (rs ++ L).length := ⟨_, rfl⟩
                  rw [← hvl] at ev2
                  subst ev2
                  have hvlH := hide hvl
                  clear hvl
                  refine gen_w (fun W5 => JW K B b z db vb jb S' (rs ++ L) br' w1 W5 ∧ StrsOwn W5 B (.slice va vl vc) (rs ++ L)) ⟨hJ9.out, hv9.out⟩ ?_
                  rintro w10 ⟨g1, g2⟩
                  have hJ10 := hide g1
                  have hu10 := hide g2
                  have hpr2 := hide (show (rs ++ L) <+: (rs ++ L) from List.prefix_rfl)
                  clear g1 g2 hCW hK hb0 hNB hNH hJ8 hw8 hJ9 hv9
                  have hRc := hide (hJ10.out.records hS'.out.fits)
                  have hrsl := hide (show (rs ++ L).length ≤ 1500 by have := RW.stos_ge (RW.sha K) (rs ++ L) RW.z32; have := hS'.out.fits; have := hzb.out.2; omega)
                  obtain ⟨tl, htl⟩ : ∃ tl, tl = (rs ++ L).length := ⟨_, rfl⟩
                  have hle : vl ≤ tl := by rw [htl, hvlH.out]; exact hpr2.out.length_le
                  have hnlt : decide ((tl : Int) < (vl : Int)) = false := decide_eq_false (by omega)
                  have htlH := hide htl
                  clear htl
                  go_upto_region 25 with (go_at_call 20; refine hRc.out.mono ?_; rintro e w20 ⟨ur, rfl, h3, h4, h5⟩; obtain ⟨ra, rc, eur⟩ := own_shape h3; rw [← htlH.out] at eur; subst eur; have hur := hide (strs_own h3); have hJ20 := hide h4; have hu20 := hide (own_keep hu10.out fun g hg => h5.block g (own_blk hu10.out hg).2.1); clear h3 h4 h5)
                  have hrcap := hide (row_cap hur.out)
                  have hSm := hide (fun W (h : Below w20.heap.size w20 W) => (show Calls Tryz.prog 19 #[.slice ra vl rc, .slice va vl vc] W fun e w' => e = .returned (.bool true) ∧ Below W.heap.size W w' from by
                    have h1 := strs_first (RowV.next hur.out h) (m := vl) (by rw [← htlH.out]; exact hle)
                    rw [show (rs ++ L).take vl = (rs ++ L) by rw [hvlH.out]; exact (List.prefix_iff_eq_take.1 hpr2.out).symm] at h1
                    have := same20_any _ _ _ _ W h1 (RowV.next (strs_own hu20.out) h) (by have := hrsl.out; have := hpr2.out.length_le; omega) (by have := hrsl.out; have := hpr2.out.length_le; omega)
                    rw [decide_eq_true rfl] at this
                    exact this))
                  have hrcb := hrcap.out
                  go_wp2_with (go_at_call 19; refine (hSm.out _ (Below.refl _ _)).mono ?_; rintro e w21 ⟨rfl, h5⟩; have hJ21 := hide (hJ20.out.next h5); have hu21 := hide (own_keep hu20.out fun g hg => h5.block g (own_blk hu20.out hg).2.1); clear h5)
                  go_roundw
                  case rel => exact ⟨j + 1, jb, by go_num, rfl, by omega, by omega, ⟨⟨S', rs ++ L, br', (rs ++ L), hJ21.out, hu21.out, hS'.out, hpr2.out⟩⟩⟩
                  case measure => simp [intOf]; omega
                · exact absurd rfl h0
              · obtain ⟨h0, _⟩ | ⟨_, rfl⟩ := hcs.out
                · exact absurd h0 hX
                · go_upto_region 24 with (first
                    | (go_at_call 12; refine hF.out.mono ?_; rintro e w7 ⟨uf, rfl, h3, h4⟩; have huf := hide (strs_own h3); have hJ7 := hide (hJ4.out.next h4); have hw7 := hide (own_keep huw.out fun g hg => h4.block g (own_blk huw.out hg).2.1); have hu7 := hide (own_keep hu4.out fun g hg => h4.block g (own_blk hu4.out hg).2.1); clear h3 h4)
                    | (go_at_call 11; refine (hAp.out _ _ hJ7.out huf.out hw7.out hu7.out).mono ?_; rintro e w8 ⟨rfl, h2, h3, h4⟩; have hJ8 := hide h2; have hu8 := hide h4; clear h2 h3 h4))
                  clear hck hF hAp hap hJ4 huw hu4 hJ7 hw7 hu7 huf hcs
                  have hRc := hide (hJ8.out.records hS'.out.fits)
                  have hrsl := hide (show (rs').length ≤ 1500 by have := RW.stos_ge (RW.sha K) (rs') RW.z32; have := hS'.out.fits; have := hzb.out.2; omega)
                  obtain ⟨tl, htl⟩ : ∃ tl, tl = (rs').length := ⟨_, rfl⟩
                  have hle : sl ≤ tl := by rw [htl, hslH.out]; exact hpre.out.length_le
                  have hnlt : decide ((tl : Int) < (sl : Int)) = false := decide_eq_false (by omega)
                  have htlH := hide htl
                  clear htl
                  go_upto_region 25 with (go_at_call 20; refine hRc.out.mono ?_; rintro e w20 ⟨ur, rfl, h3, h4, h5⟩; obtain ⟨ra, rc, eur⟩ := own_shape h3; rw [← htlH.out] at eur; subst eur; have hur := hide (strs_own h3); have hJ20 := hide h4; have hu20 := hide (own_keep hu8.out fun g hg => h5.block g (own_blk hu8.out hg).2.1); clear h3 h4 h5)
                  have hrcap := hide (row_cap hur.out)
                  have hSm := hide (fun W (h : Below w20.heap.size w20 W) => (show Calls Tryz.prog 19 #[.slice ra sl rc, .slice ua sl uc] W fun e w' => e = .returned (.bool true) ∧ Below W.heap.size W w' from by
                    have h1 := strs_first (RowV.next hur.out h) (m := sl) (by rw [← htlH.out]; exact hle)
                    rw [show (rs').take sl = sure by rw [hslH.out]; exact (List.prefix_iff_eq_take.1 hpre.out).symm] at h1
                    have := same20_any _ _ _ _ W h1 (RowV.next (strs_own hu20.out) h) (by have := hrsl.out; have := hpre.out.length_le; omega) (by have := hrsl.out; have := hpre.out.length_le; omega)
                    rw [decide_eq_true rfl] at this
                    exact this))
                  have hrcb := hrcap.out
                  go_wp2_with (go_at_call 19; refine (hSm.out _ (Below.refl _ _)).mono ?_; rintro e w21 ⟨rfl, h5⟩; have hJ21 := hide (hJ20.out.next h5); have hu21 := hide (own_keep hu20.out fun g hg => h5.block g (own_blk hu20.out hg).2.1); clear h5)
                  go_roundw
                  case rel => exact ⟨j + 1, jb, by go_num, rfl, by omega, by omega, ⟨⟨S', rs', br', sure, hJ21.out, hu21.out, hS'.out, hpre.out⟩⟩⟩
                  case measure => simp [intOf]; omega
      · obtain rfl : j = 20 := by omega
        go_wp2
        go_ret
        exact ⟨rfl, hB1H.out.trans (hJ.out.bel.mono hwB.out)⟩
    · obtain rfl : m = j := by omega
      go_wp2
      go_ret
      exact ⟨rfl, hB1H.out.trans (hJ.out.bel.mono hwB.out)⟩
end Go.Proofs.YtllbphanfahkkaaGreatDoor

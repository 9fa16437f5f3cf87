/-
  Package royaltylaw23: JournalReopens.
-/
import Derived.Test.YtllbphanfahkkaaDoorJn12
namespace Go.Proofs.YtllbphanfahkkaaDoor
open Go.RowKit RG
/-- a row of rows of strings -/
def GrpR (W : World) (v : Value) (ps : List (Value × List ByteArray)) : Prop := RowV 1 (fun p : Value × List ByteArray => [p.1]) W v ps ∧ ∀ p ∈ ps, StrR W p.1 p.2 ∧ p.2.length ≤ 9223372036854775807
theorem GrpR.next {W W' : World} {v : Value} {ps : List (Value × List ByteArray)} (h : GrpR W v ps) (hB : Below W.heap.size W W') : GrpR W' v ps := ⟨RowV.next h.1 hB, fun p hp => ⟨RowV.next (h.2 p hp).1 hB, (h.2 p hp).2⟩⟩
theorem grp_cell {W : World} {v : Value} {ps : List (Value × List ByteArray)} {j : Nat} {p : Value × List ByteArray} (h : GrpR W v ps) (hp : ps[j]? = some p) : ∃ g o c, v = .slice (some ⟨g, o, none⟩) ps.length c ∧ W.cell? ⟨g, o + j, none⟩ = some p.1 ∧ StrR W p.1 p.2 ∧ p.2.length ≤ 9223372036854775807 := by
  obtain ⟨⟨a, c, rfl, _, hc⟩, h2⟩ := h
  rcases hc with rfl | ⟨g, o, rfl, hb, hc⟩
  · simp at hp
  · have e := hc j p hp 0 _ rfl
    rw [Nat.mul_one, Nat.add_zero] at e
    exact ⟨g, o, c, rfl, e, h2 p (List.mem_of_getElem? hp)⟩
set_option maxRecDepth 100000 in
set_option maxHeartbeats 8000000 in
theorem reopens_any (c : Int) (hc : -9223372036854775808 ≤ c) (hc2 : c ≤ 9223372036854775807) (gv : Value) (ps : List (Value × List ByteArray)) (hpl : ps.length ≤ 9223372036854775807) (K : Nat → Int) (ks : Array Value) (hks : RW.WsOk ks K) (a : Addr) (w : World) (hps : GrpR w gv ps) (hK : KLaid w ks) (hg : w.cell? ⟨0, 0, none⟩ = some (RW.jeW a)) :
    Calls Tryd.prog 4 #[.int .i64 c, gv] w fun e w' => e = .returned (.bool true) ∧ Below w.heap.size w w' := by
  obtain ⟨z, hz⟩ : ∃ z : Nat, 1 + RW.pickI c 1500 = (z : Int) := ⟨(1 + RW.pickI c 1500).toNat, by have := RW.pickI_bd c 1500 (by decide); omega⟩
  have hzb := hide (show 1 ≤ z ∧ z ≤ 1500 by have := RW.pickI_bd c 1500 (by decide); omega)
  have hSz := hide (fun W => lsize_any c hc hc2 z hz W)
  have hgl := hide (cell_ltJ hg)
  have hnx0 := hide (fun W (hW : Below w.heap.size w W) => (show KLaid W ks ∧ W.cell? ⟨0, 0, none⟩ = some (RW.jeW a) ∧ GrpR W gv ps from ⟨RW.jklaid hK hW (Nat.le_refl _), (World.cell?_of_block (a := ⟨0, 0, none⟩) (hW.block _ hgl.out)).trans hg, hps.next hW⟩))
  have hSn := hide (sane_any K ks hks a w hK hg)
  obtain ⟨ga, gc, egv, _, _⟩ := id hps.1
  subst egv
  obtain ⟨m, hm⟩ : ∃ m, m = ps.length := ⟨_, rfl⟩
  have hmH := hide hm
  rw [← hm] at hnx0 hpl ⊢
  clear hK hg hps hz hgl hm
  go_enter Tryd.func4, Tryd.ntmps4
  go_upto_region 2 with (go_at_call 5; refine hSn.out.mono ?_; rintro e w1 ⟨rfl, hB1⟩; have hB1H := hide hB1; clear hB1)
  obtain ⟨B, hB⟩ : ∃ B, B = w1.heap.size := ⟨_, rfl⟩
  have hBH := hide hB
  have hwB := hide (show w.heap.size ≤ B by rw [hB]; exact hB1H.out.size)
  have hnx := hide (fun W (hW : Below B w1 W) => hnx0.out W (hB1H.out.trans (hW.mono hwB.out)))
  have hN := hide (new_any z hzb.out.1 (by have := hzb.out.2; omega) w1)
  rw [← hB] at hN
  clear hB hSn hnx0
  go_upto_region 3 with (first
    | (go_at_call 7; refine (hSz.out _).mono ?_; rintro e w' ⟨rfl, rfl⟩)
    | (go_at_call 6; refine hN.out.mono ?_; rintro e w2 ⟨b, rfl, hd1, hB2⟩; obtain ⟨db, vb, hd1⟩ := hd1; have hD2 := hide hd1; have hB2H := hide hB2; clear hd1 hB2))
  have hOp := hide (open_inv hks hD2.out (RW.inv_dk0 z) (hnx.out w2 hB2H.out).1 (hnx.out w2 hB2H.out).2.1)
  go_upto_region 4 with (go_at_call 8; refine hOp.out.mono ?_; rintro e w3 ⟨jb, rfl, h2, ht2⟩; have hJ3 := hide (show JW K B b z db vb jb (RW.dk0 z) [] false w1 w3 from ⟨h2.d, h2.j, hB2H.out.trans h2.bel⟩); clear h2 ht2)
  clear hOp hN hD2 hB2H
  go_wp2
  go_loopw [10] (fun i wr => ∃ (j : Nat), i = .int .i64 j ∧ j ≤ m ∧ j ≤ 8 ∧ Hid (∃ S rs, RW.JInv (RW.sha K) z S rs ∧ S.left = 0 ∧ JW K B b z db vb jb S rs false w1 wr)) (fun i _ => 8 - (intOf i).toNat)
  case atStart => exact ⟨0, rfl, Nat.zero_le _, Nat.zero_le _, ⟨RW.dk0 z, [], RW.inv_dk0 z, rfl, hJ3.out⟩⟩
  case round =>
    obtain ⟨j, rfl, hj, hj8, hQ⟩ := hrel
    obtain ⟨wo, hwo⟩ : ∃ wo, wo = wr := ⟨_, rfl⟩
    subst hwo
    obtain ⟨S, rs, hI, h0, hJ⟩ := hQ.out
    have hI := hide hI
    have h0 := hide h0
    have hJ := hide hJ
    clear hQ hJ3
    by_cases hjm : j < m
    · by_cases hj7 : j < 8
      · obtain ⟨p, hp⟩ : ∃ p, ps[j]? = some p := ⟨_, List.getElem?_eq_getElem (by rw [← hmH.out]; exact hjm)⟩
        obtain ⟨g0, o0, gc', e', hcell, hpr, hpn⟩ := grp_cell (by have h := (hnx.out wo hJ.out.bel).2.2; rw [hmH.out] at h; exact h) hp
        cases e'
        obtain ⟨pv, pl⟩ := p
        have hF := hide (few_any pv pl wo hpr hpn)
        have hcell' : wo.cell? ⟨g0, o0 + j, none⟩ = some pv := hcell
        obtain ⟨x, S', rs', e1, e2, e3⟩ := RW.japp_any (RW.sha_len K) hI.out h0.out (RW.fewL pl)
        have e1 := hide e1
        have e2 := hide e2
        have e3 := hide e3
        clear hp hpr hpn hcell
        go_wp2_with (first
          | (go_at_call 9; refine hF.out.mono ?_; rintro e w4 ⟨u, rfl, h3, h4⟩; have hu := hide h3; have hJ4 := hide (hJ.out.next h4); clear h3 h4)
          | (go_at_call 11; refine (hJ4.out.append hks (by rw [hI.out.pend]; decide) hI.out.fits (strs_own hu.out) (by have := RW.fewL_len pl; omega) (hnx.out _ hJ4.out.bel).1).mono ?_; rintro e w5 ⟨rfl, h2, _, _⟩; rw [e1.out] at h2 ⊢; have hJ5 := hide h2; clear h2))
        go_roundw
        case rel => exact ⟨j + 1, by go_num, by omega, by omega, ⟨S', rs', e2.out, e3.out, hJ5.out⟩⟩
        case measure => simp [intOf]; omega
      · obtain rfl : j = 8 := by omega
        obtain ⟨hcu, hI2⟩ := RW.inv_cut hI.out
        have hI2 := hide hI2
        have hCu := hide (show Calls Tryd.prog 15 #[.pointer (some ⟨b, 0, none⟩), .int .i64 1] wo fun e w' => e = .returned (.int .i64 0) ∧ JW K B b z db vb jb ⟨false, 1, S.dur, S.vis, S.pend⟩ rs false w1 w' from by
          refine (hJ.out.cut 1 (by decide)).mono ?_
          rintro e w' ⟨h1, h2, _, _⟩
          rw [hcu] at h1 h2
          exact ⟨h1, h2⟩)
        clear hcu
        go_upto_region 11 with (go_at_call 15; refine hCu.out.mono ?_; rintro e w6 ⟨rfl, h2⟩; have hJ6 := hide h2; clear h2)
        clear hCu hJ
        have hO2 := hide (show Calls Tryd.prog 8 #[.pointer (some ⟨b, 0, none⟩)] w6 fun e w' => ∃ j2, e = .returned (.tuple #[.pointer (some ⟨j2, 0, none⟩), .int .i64 0]) ∧ JW K B b z db vb j2 ⟨false, 1, S.dur, S.vis, S.pend⟩ rs false w1 w' ∧ JW K B b z db vb jb ⟨false, 1, S.dur, S.vis, S.pend⟩ rs false w1 w' from by
          obtain ⟨pv, hd⟩ := hJ6.out.d
          refine (open_inv hks hd hI2.out (hnx.out _ hJ6.out.bel).1 (hnx.out _ hJ6.out.bel).2.1).mono ?_
          rintro e w' ⟨j2, h1, h2, h3⟩
          exact ⟨j2, h1, ⟨h2.d, h2.j, hJ6.out.bel.trans h2.bel⟩, hJ6.out.tch h2.d h3 h2.bel⟩)
        go_upto_region 12 with (go_at_call 8; refine hO2.out.mono ?_; rintro e w7 ⟨j2, rfl, h2, h3⟩; have hL7 := hide h2; have hJ7 := hide h3; clear h2 h3)
        clear hO2 hJ6
        have hRc := hide (fun W j (h : JW K B b z db vb j ⟨false, 1, S.dur, S.vis, S.pend⟩ rs false w1 W) => h.records hI2.out.fits)
        have hRm := hide (fun W j (h : JW K B b z db vb j ⟨false, 1, S.dur, S.vis, S.pend⟩ rs false w1 W) => h.room hI2.out.fits)
        have hPe := hide (fun W j (h : JW K B b z db vb j ⟨false, 1, S.dur, S.vis, S.pend⟩ rs false w1 W) => h.pending)
        have hCo := hide (fun W j (h : JW K B b z db vb j ⟨false, 1, S.dur, S.vis, S.pend⟩ rs false w1 W) => h.content)
        rw [show ((⟨false, 1, S.dur, S.vis, S.pend⟩ : RW.Dk).pend.length) = 0 by rw [show ((⟨false, 1, S.dur, S.vis, S.pend⟩ : RW.Dk).pend) = [] from hI2.out.pend]; rfl] at hPe
        obtain ⟨X, hX⟩ : ∃ X, X = (RW.Dk.read ⟨false, 1, S.dur, S.vis, S.pend⟩ z 0 z).1 := ⟨_, rfl⟩
        rw [← hX] at hCo
        have hXs : X.size = z := by rw [hX]; exact RW.inv_read hI2.out
        obtain ⟨rr, hrr⟩ : ∃ rr : Int, rr = (z : Int) - ((RW.stos (RW.sha K) RW.z32 rs).length : Int) := ⟨_, rfl⟩
        rw [← hrr] at hRm
        have hrl := hide (show rs.length ≤ 9223372036854775807 by have := RW.stos_ge (RW.sha K) rs RW.z32; have := hI2.out.fits; have := hzb.out.2; omega)
        clear hX hrr
        go_wp2_with (first
          | (go_at_call 13; refine (hRc.out _ jb hJ7.out).mono ?_; rintro e w8 ⟨u8, rfl, h3, h4, h5⟩; have hu8 := hide h3; have hL8 := hide (hL7.out.next h5); have hJ8 := hide h4; clear h3 h4 h5 hJ7)
          | (go_at_call 13; refine (hRc.out _ j2 hL8.out).mono ?_; rintro e w9 ⟨u9, rfl, h3, h4, h5⟩; have hu9 := hide h3; have hv9 := hide (own_keep hu8.out fun g hg => h5.block g (own_blk hu8.out hg).2.1); have hJ9 := hide (hJ8.out.next h5); have hL9 := hide h4; clear h3 h4 h5)
          | (go_at_call 16; refine (same20_any _ _ rs rs _ (strs_own hv9.out) (strs_own hu9.out) hrl.out hrl.out).mono ?_; rintro e w10 ⟨rfl, h5⟩; have hJ10 := hide (hJ9.out.next h5); have hL10 := hide (hL9.out.next h5); clear h5; rw [decide_eq_true (rfl : rs = rs)])
          | (go_at_call 12; refine (hRm.out _ jb hJ10.out).mono ?_; rintro e w11 ⟨rfl, h4, h5⟩; have hL11 := hide (hL10.out.next h5); have hJ11 := hide h4; clear h4 h5 hJ10)
          | (go_at_call 12; refine (hRm.out _ j2 hL11.out).mono ?_; rintro e w12 ⟨rfl, h4, h5⟩; have hJ12 := hide (hJ11.out.next h5); clear h4 h5)
          | (go_at_call 17; refine (hPe.out _ jb hJ12.out).mono ?_; rintro e w' ⟨rfl, rfl⟩)
          | (go_at_call 18; refine (hCo.out _ jb hJ12.out).mono ?_; rintro e w' ⟨rfl, rfl⟩)
          | (go_at_call 7; refine (hSz.out _).mono ?_; rintro e w' ⟨rfl, rfl⟩))
        go_ret
        exact ⟨by first | rfl | simp [hXs], hB1H.out.trans (hJ12.out.bel.mono hwB.out)⟩
    · obtain rfl : m = j := by omega
      obtain ⟨hcu, hI2⟩ := RW.inv_cut hI.out
      have hI2 := hide hI2
      have hCu := hide (show Calls Tryd.prog 15 #[.pointer (some ⟨b, 0, none⟩), .int .i64 1] wo fun e w' => e = .returned (.int .i64 0) ∧ JW K B b z db vb jb ⟨false, 1, S.dur, S.vis, S.pend⟩ rs false w1 w' from by
        refine (hJ.out.cut 1 (by decide)).mono ?_
        rintro e w' ⟨h1, h2, _, _⟩
        rw [hcu] at h1 h2
        exact ⟨h1, h2⟩)
      clear hcu
      go_upto_region 11 with (go_at_call 15; refine hCu.out.mono ?_; rintro e w6 ⟨rfl, h2⟩; have hJ6 := hide h2; clear h2)
      clear hCu hJ
      have hO2 := hide (show Calls Tryd.prog 8 #[.pointer (some ⟨b, 0, none⟩)] w6 fun e w' => ∃ j2, e = .returned (.tuple #[.pointer (some ⟨j2, 0, none⟩), .int .i64 0]) ∧ JW K B b z db vb j2 ⟨false, 1, S.dur, S.vis, S.pend⟩ rs false w1 w' ∧ JW K B b z db vb jb ⟨false, 1, S.dur, S.vis, S.pend⟩ rs false w1 w' from by
        obtain ⟨pv, hd⟩ := hJ6.out.d
        refine (open_inv hks hd hI2.out (hnx.out _ hJ6.out.bel).1 (hnx.out _ hJ6.out.bel).2.1).mono ?_
        rintro e w' ⟨j2, h1, h2, h3⟩
        exact ⟨j2, h1, ⟨h2.d, h2.j, hJ6.out.bel.trans h2.bel⟩, hJ6.out.tch h2.d h3 h2.bel⟩)
      go_upto_region 12 with (go_at_call 8; refine hO2.out.mono ?_; rintro e w7 ⟨j2, rfl, h2, h3⟩; have hL7 := hide h2; have hJ7 := hide h3; clear h2 h3)
      clear hO2 hJ6
      have hRc := hide (fun W j (h : JW K B b z db vb j ⟨false, 1, S.dur, S.vis, S.pend⟩ rs false w1 W) => h.records hI2.out.fits)
      have hRm := hide (fun W j (h : JW K B b z db vb j ⟨false, 1, S.dur, S.vis, S.pend⟩ rs false w1 W) => h.room hI2.out.fits)
      have hPe := hide (fun W j (h : JW K B b z db vb j ⟨false, 1, S.dur, S.vis, S.pend⟩ rs false w1 W) => h.pending)
      have hCo := hide (fun W j (h : JW K B b z db vb j ⟨false, 1, S.dur, S.vis, S.pend⟩ rs false w1 W) => h.content)
      rw [show ((⟨false, 1, S.dur, S.vis, S.pend⟩ : RW.Dk).pend.length) = 0 by rw [show ((⟨false, 1, S.dur, S.vis, S.pend⟩ : RW.Dk).pend) = [] from hI2.out.pend]; rfl] at hPe
      obtain ⟨X, hX⟩ : ∃ X, X = (RW.Dk.read ⟨false, 1, S.dur, S.vis, S.pend⟩ z 0 z).1 := ⟨_, rfl⟩
      rw [← hX] at hCo
      have hXs : X.size = z := by rw [hX]; exact RW.inv_read hI2.out
      obtain ⟨rr, hrr⟩ : ∃ rr : Int, rr = (z : Int) - ((RW.stos (RW.sha K) RW.z32 rs).length : Int) := ⟨_, rfl⟩
      rw [← hrr] at hRm
      have hrl := hide (show rs.length ≤ 9223372036854775807 by have := RW.stos_ge (RW.sha K) rs RW.z32; have := hI2.out.fits; have := hzb.out.2; omega)
      clear hX hrr
      go_wp2_with (first
        | (go_at_call 13; refine (hRc.out _ jb hJ7.out).mono ?_; rintro e w8 ⟨u8, rfl, h3, h4, h5⟩; have hu8 := hide h3; have hL8 := hide (hL7.out.next h5); have hJ8 := hide h4; clear h3 h4 h5 hJ7)
        | (go_at_call 13; refine (hRc.out _ j2 hL8.out).mono ?_; rintro e w9 ⟨u9, rfl, h3, h4, h5⟩; have hu9 := hide h3; have hv9 := hide (own_keep hu8.out fun g hg => h5.block g (own_blk hu8.out hg).2.1); have hJ9 := hide (hJ8.out.next h5); have hL9 := hide h4; clear h3 h4 h5)
        | (go_at_call 16; refine (same20_any _ _ rs rs _ (strs_own hv9.out) (strs_own hu9.out) hrl.out hrl.out).mono ?_; rintro e w10 ⟨rfl, h5⟩; have hJ10 := hide (hJ9.out.next h5); have hL10 := hide (hL9.out.next h5); clear h5; rw [decide_eq_true (rfl : rs = rs)])
        | (go_at_call 12; refine (hRm.out _ jb hJ10.out).mono ?_; rintro e w11 ⟨rfl, h4, h5⟩; have hL11 := hide (hL10.out.next h5); have hJ11 := hide h4; clear h4 h5 hJ10)
        | (go_at_call 12; refine (hRm.out _ j2 hL11.out).mono ?_; rintro e w12 ⟨rfl, h4, h5⟩; have hJ12 := hide (hJ11.out.next h5); clear h4 h5)
        | (go_at_call 17; refine (hPe.out _ jb hJ12.out).mono ?_; rintro e w' ⟨rfl, rfl⟩)
        | (go_at_call 18; refine (hCo.out _ jb hJ12.out).mono ?_; rintro e w' ⟨rfl, rfl⟩)
        | (go_at_call 7; refine (hSz.out _).mono ?_; rintro e w' ⟨rfl, rfl⟩))
      go_ret
      exact ⟨by first | rfl | simp [hXs], hB1H.out.trans (hJ12.out.bel.mono hwB.out)⟩
end Go.Proofs.YtllbphanfahkkaaDoor

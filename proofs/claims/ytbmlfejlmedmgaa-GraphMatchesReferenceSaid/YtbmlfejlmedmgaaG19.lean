/-
  Package royaltylaw10: GraphMatchesReference: it returns true; only new memory is written.
-/
import Derived.Test.YtbmlfejlmedmgaaG18
namespace Go.Proofs.Ytbmlfejlmedmgaa
open Go.RowKit RG
set_option maxRecDepth 10000 in
set_option maxHeartbeats 8000000 in
theorem graphmatches_any (v : Value) (l : List RW.Ed) (hl : ∀ e ∈ l, RW.i64b e.1 ∧ RW.i64b e.2) (a b dev : Int) (ha : RW.i64b a) (hb : RW.i64b b) (hd : RW.i64b dev) (w : World) (hv : RowV 2 RW.edl w v l) :
    Calls Try.prog 3 #[v, .int .i64 a, .int .i64 b, .int .i64 dev] w fun e w' => e = .returned (.bool true) ∧ Below w.heap.size w w' := by
  have hS := hide (sane_any w)
  have hPa := hide (fun W => pick_any a 14 ha.1 ha.2 (by decide) (by decide) W)
  have hPb := hide (fun W => pick_any b 14 hb.1 hb.2 (by decide) (by decide) W)
  have hPd := hide (fun W => pick_any dev 12 hd.1 hd.2 (by decide) (by decide) W)
  obtain ⟨pa, hpa⟩ : ∃ x, x = RW.pickI a 14 := ⟨_, rfl⟩
  obtain ⟨pb, hpb⟩ : ∃ x, x = RW.pickI b 14 := ⟨_, rfl⟩
  obtain ⟨pd, hpd⟩ : ∃ x, x = RW.pickI dev 12 := ⟨_, rfl⟩
  rw [← hpa] at hPa
  rw [← hpb] at hPb
  rw [← hpd] at hPd
  have hF := hide (fun raw W (hW : RowV 2 RW.edl W v l) => few_any v l raw hl W hW)
  have hvH := hide hv
  obtain ⟨av, cv, hvf, _, _⟩ := hv
  subst hvf
  obtain ⟨nl, hnl⟩ : ∃ n, n = l.length := ⟨_, rfl⟩
  rw [← hnl] at hF hvH ⊢
  obtain ⟨B, hB⟩ : ∃ B, B = w.heap.size := ⟨_, rfl⟩
  have hBH := hide hB
  clear ha hb hd hl hnl hpa hpb hpd hB
  go_enter Try.func3, Try.ntmps3
  go_upto_region 2 with (go_at_call 8; refine hS.out.mono ?_; rintro e w1 ⟨rfl, q⟩; have k2 := hide (hvH.out.next q); have k3 := hide (show Below B w w1 from hBH.out ▸ q); clear q)
  go_upto_region 3 with fail
  refine gen_w (fun W => W.heap[w1.heap.size]? = some (.cells #[.bool true, .bool false] 4 (0, 0)) ∧ RowV 2 RW.edl W (.slice av nl cv) l ∧ Below B w W) ⟨alloc_at1 _ _, k2.out.next (alloc_bel (Below.refl _ _) (Nat.le_refl _) _), k3.out.alloc (by rw [hBH.out]; exact (hBH.out ▸ k3.out).size) _⟩ ?_
  obtain ⟨gB, hgB⟩ : ∃ g, g = w1.heap.size := ⟨_, rfl⟩
  rw [← hgB]
  clear hgB k2 k3 hS
  rintro w2 ⟨h1, h2, h3⟩
  obtain ⟨B2, hB2⟩ : ∃ b, b = w2.heap.size := ⟨_, rfl⟩
  have hB2H := hide hB2
  have rL := hide (fun W (h : Below B2 w2 W) => h2.next (hB2 ▸ h))
  have rb := hide (fun W (h : Below B2 w2 W) => (show Below B w W from h3.trans (h.mono (by rw [hB2, hBH.out]; exact (hBH.out ▸ h3).size))))
  have s2 := hide (fun W (h : Below B2 w2 W) => (show B2 ≤ W.heap.size by rw [hB2]; exact (hB2 ▸ h).size))
  have cB := hide (fun (i : Nat) (hi : i < 2) => (show ∃ raw : Bool, ∀ W, Below B2 w2 W → W.cell? ⟨gB, i, none⟩ = some (.bool raw) by
    have hlt := (Array.getElem?_eq_some_iff.1 h1).1
    rcases i with _ | _ | i
    · exact ⟨true, fun W h => (World.cell?_of_block (a := ⟨gB, 0, none⟩) (h.block _ (by rw [hB2]; exact hlt))).trans (cellAt h1 0)⟩
    · exact ⟨false, fun W h => (World.cell?_of_block (a := ⟨gB, 1, none⟩) (h.block _ (by rw [hB2]; exact hlt))).trans (cellAt h1 1)⟩
    · omega))
  clear h1 h2 h3 hB2 hvH
  go_wp2
  go_loopw [22] (fun i wr => ∃ j : Nat, i = .int .i64 j ∧ j ≤ 2 ∧ Hid (Below B2 w2 wr)) (fun i _ => 2 - (intOf i).toNat)
  case atStart => exact ⟨0, rfl, Nat.zero_le _, by rw [hB2H.out]; exact Below.refl _ _⟩
  case round =>
    obtain ⟨j, rfl, hj, hQ⟩ := hrel
    obtain ⟨wo, hwo⟩ : ∃ wo, wo = wr := ⟨_, rfl⟩
    subst hwo
    have hBw := hide hQ.out
    clear hQ
    by_cases hjm : j < 2
    · have hji : (j : Int) < 2 := by omega
      obtain ⟨raw, hraw⟩ := cB.out j hjm
      have c0 : wo.cell? ⟨gB, j, none⟩ = some (.bool raw) := hraw wo hBw.out
      have hFw := hide (hF.out raw wo (rL.out wo hBw.out))
      obtain ⟨E, hE⟩ : ∃ E, E = RW.fewL raw l := ⟨_, rfl⟩
      have hEl := hide (show E.length ≤ 50 by rw [hE]; exact RW.fewL_len _ _)
      rw [← hE] at hFw
      clear hraw hE
      go_upto_region 6 with (go_at_call 9; refine hFw.out.mono ?_; rintro e w3 ⟨ve, rfl, q1, q⟩; have g2 := hide q1; have g3 := hide (hBw.out.trans (q.mono (s2.out _ hBw.out))); clear q q1)
      obtain ⟨ae, ce, hve⟩ := g2.out.form
      subst hve
      obtain ⟨ne, hne⟩ : ∃ n, n = E.length := ⟨_, rfl⟩
      have gr := hide g2.out.row
      rw [← hne] at gr
      rw [← hne]
      clear hne g2
      go_upto_region 7 with (go_at_call 10; refine (hPa.out _).mono ?_; rintro e w' ⟨rfl, rfl⟩)
      refine gen_w (fun W => W.heap[w3.heap.size]? = some (.cells #[.int .i64 a, .int .i64 pa] 3 (0, 0)) ∧ RowV 2 RW.edl W (.slice ae ne ce) E ∧ Below B2 w2 W) ⟨alloc_at1 _ _, gr.out.next (alloc_bel (Below.refl _ _) (Nat.le_refl _) _), g3.out.alloc (s2.out _ g3.out) _⟩ ?_
      obtain ⟨gA, hgA⟩ : ∃ g, g = w3.heap.size := ⟨_, rfl⟩
      rw [← hgA]
      clear hgA gr g3 hFw hBw c0
      rintro w5 ⟨h1, h2, h3⟩
      obtain ⟨B5, hB5⟩ : ∃ b, b = w5.heap.size := ⟨_, rfl⟩
      have hB5H := hide hB5
      have rE := hide (fun W (h : Below B5 w5 W) => h2.next (hB5 ▸ h))
      have r5 := hide (fun W (h : Below B5 w5 W) => (show Below B2 w2 W from h3.trans (h.mono (by rw [hB5]; exact s2.out _ h3))))
      have s5 := hide (fun W (h : Below B5 w5 W) => (show B5 ≤ W.heap.size by rw [hB5]; exact (hB5 ▸ h).size))
      have cA := hide (fun (i : Nat) (hi : i < 2) => (show ∃ x : Int, ∀ W, Below B5 w5 W → W.cell? ⟨gA, i, none⟩ = some (.int .i64 x) by
        have hlt := (Array.getElem?_eq_some_iff.1 h1).1
        rcases i with _ | _ | i
        · exact ⟨a, fun W h => (World.cell?_of_block (a := ⟨gA, 0, none⟩) (h.block _ (by rw [hB5]; exact hlt))).trans (cellAt h1 0)⟩
        · exact ⟨pa, fun W h => (World.cell?_of_block (a := ⟨gA, 1, none⟩) (h.block _ (by rw [hB5]; exact hlt))).trans (cellAt h1 1)⟩
        · omega))
      have hE1 : E.length ≤ 1000 := by have := hEl.out; omega
      have hE4 : E.length ≤ 400 := by have := hEl.out; omega
      have hCl := hide (fun x W (h : Below B5 w5 W) => cluster_any _ E x hE1 W (rE.out W h))
      have hRCl := hide (fun x W (h : Below B5 w5 W) => rcluster_any _ E x hE4 W (rE.out W h))
      have hJ := hide (fun x y W (h : Below B5 w5 W) => joined_any _ E x y hE1 W (rE.out W h))
      have hRJ := hide (fun x y W (h : Below B5 w5 W) => rjoined_any _ E x y hE4 W (rE.out W h))
      have hCs := hide (fun W (h : Below B5 w5 W) => clusters_any _ E hE1 W (rE.out W h))
      have hRCs := hide (fun W (h : Below B5 w5 W) => rclusters_any _ E hE4 W (rE.out W h))
      have hDg := hide (fun d W (h : Below B5 w5 W) => degree_any _ E d hE1 W (rE.out W h))
      have hRDg := hide (fun d W (h : Below B5 w5 W) => rdegree_any _ E d hE4 W (rE.out W h))
      have hbd := hide (fun x => RW.cl_bd E x hE1)
      have hbd2 := hide (RW.cls_bd E hE1)
      have hsm := hide (fun (L : List Int) (hL : L.length ≤ 1000) W u u' (h : RowV 1 encI W u L) (h' : RowV 1 encI W u' L) => (show Calls Try.prog 13 #[u, u'] W fun e w' => e = .returned (.bool true) ∧ Below W.heap.size W w' by
        have := same_any u u' L L (by omega) W h h'
        rw [decide_eq_true (rfl : L = L)] at this
        exact this))
      have hsl := hide (fun W u u' (h : LL W u (RW.cls E)) (h' : LL W u' (RW.cls E)) => (show Calls Try.prog 16 #[u, u'] W fun e w' => e = .returned (.bool true) ∧ Below W.heap.size W w' by
        have := samelists_any u u' (RW.cls E) (RW.cls E) (by have := hbd2.out.1; omega) (fun x hx => by have := hbd2.out.2 x hx; omega) W h h'
        rw [decide_eq_true (rfl : RW.cls E = RW.cls E)] at this
        exact this))
      clear h1 h2 h3 hB5 hE1 hE4
      go_wp2
      go_loopw [34] (fun i wr => ∃ k : Nat, i = .int .i64 k ∧ k ≤ 2 ∧ Hid (Below B5 w5 wr)) (fun i _ => 2 - (intOf i).toNat)
      case atStart => exact ⟨0, rfl, Nat.zero_le _, by rw [hB5H.out]; exact Below.refl _ _⟩
      case round =>
        obtain ⟨k, rfl, hk, hQ⟩ := hrel
        obtain ⟨wp, hwp⟩ : ∃ wp, wp = wr := ⟨_, rfl⟩
        subst hwp
        have hb := hide hQ.out
        clear hQ
        by_cases hkm : k < 2
        · have hki : (k : Int) < 2 := by omega
          obtain ⟨x, hx⟩ := cA.out k hkm
          have c0 : wp.cell? ⟨gA, k, none⟩ = some (.int .i64 x) := hx wp hb.out
          have hCx := hide (fun W (h : Below B5 w5 W) => hCl.out x W h)
          have hRCx := hide (fun W (h : Below B5 w5 W) => hRCl.out x W h)
          have hbx := hide (hbd.out x)
          obtain ⟨X, hX⟩ : ∃ X, X = RW.cAcc E x := ⟨_, rfl⟩
          obtain ⟨Y, hY⟩ : ∃ Y, Y = RW.cDev E x := ⟨_, rfl⟩
          rw [← hX, ← hY] at hCx hRCx hbx
          have hJ1 := hide (fun W (h : Below B5 w5 W) => hJ.out x b W h)
          have hRJ1 := hide (fun W (h : Below B5 w5 W) => hRJ.out x b W h)
          have hJ2 := hide (fun W (h : Below B5 w5 W) => hJ.out x pb W h)
          have hRJ2 := hide (fun W (h : Below B5 w5 W) => hRJ.out x pb W h)
          obtain ⟨q1, hq1⟩ : ∃ q, q = RW.jn E x b := ⟨_, rfl⟩
          obtain ⟨q2, hq2⟩ : ∃ q, q = RW.jn E x pb := ⟨_, rfl⟩
          rw [← hq1] at hJ1 hRJ1
          rw [← hq2] at hJ2 hRJ2
          clear hx hX hY hq1 hq2
          go_upto_region 10 with (go_at_call 11; refine (hCx.out _ hb.out).mono ?_; rintro e w6 ⟨u1, u2, rfl, p1, p2, p⟩; have a1 := hide p1; have a2 := hide p2; have hb6 := hide (hb.out.trans (p.mono (s5.out _ hb.out))); clear p p1 p2)
          go_upto_region 11 with (go_at_call 12; refine (hRCx.out _ hb6.out).mono ?_; rintro e w7 ⟨u3, u4, rfl, p1, p2, p⟩; have a3 := hide (IntsO.row (W := w7) (B := w6.heap.size) p1); have a4 := hide (IntsO.row (W := w7) (B := w6.heap.size) p2); have b1 := hide (a1.out.next p); have b2 := hide (a2.out.next p); have hb7 := hide (hb6.out.trans (p.mono (s5.out _ hb6.out))); clear p p1 p2)
          clear a1 a2 hb hb6 c0
          have tok1 : True := trivial
          have tok2 : True := trivial
          have tok3 : True := trivial
          cases q1 <;> cases q2
          all_goals
            go_wp2_with (first
              | (go_at_call 13; have _t := tok1; refine (hsm.out X hbx.out.1 _ _ _ b1.out a3.out).mono ?_; rintro e w8 ⟨rfl, p⟩; have d2 := hide (b2.out.next p); have d4 := hide (a4.out.next p); have hb8 := hide (hb7.out.trans (p.mono (s5.out _ hb7.out))); clear p tok1)
              | (go_at_call 13; refine (hsm.out Y hbx.out.2 _ _ _ d2.out d4.out).mono ?_; rintro e w9 ⟨rfl, p⟩; have hb9 := hide (hb8.out.trans (p.mono (s5.out _ hb8.out))); clear p)
              | (go_at_call 14; have _t := tok2; refine (hJ1.out _ hb9.out).mono ?_; rintro e w10 ⟨rfl, p⟩; have hb10 := hide (hb9.out.trans (p.mono (s5.out _ hb9.out))); clear p tok2)
              | (go_at_call 15; have _t := tok3; refine (hRJ1.out _ hb10.out).mono ?_; rintro e w11 ⟨rfl, p⟩; have hb11 := hide (hb10.out.trans (p.mono (s5.out _ hb10.out))); clear p tok3)
              | (go_at_call 10; refine (hPb.out _).mono ?_; rintro e w' ⟨rfl, rfl⟩)
              | (go_at_call 14; refine (hJ2.out _ hb11.out).mono ?_; rintro e w12 ⟨rfl, p⟩; have hb12 := hide (hb11.out.trans (p.mono (s5.out _ hb11.out))); clear p)
              | (go_at_call 15; refine (hRJ2.out _ hb12.out).mono ?_; rintro e w13 ⟨rfl, p⟩; have hb13 := hide (hb12.out.trans (p.mono (s5.out _ hb12.out))); clear p))
            go_roundw
            case rel => exact ⟨k + 1, by go_num, by omega, hb13.out⟩
            case measure => simp [intOf]; omega
        · obtain rfl : k = 2 := by omega
          have hC1 := hide (hCs.out wp hb.out)
          have hD1 := hide (fun W (h : Below B5 w5 W) => hDg.out dev W h)
          have hRD1 := hide (fun W (h : Below B5 w5 W) => hRDg.out dev W h)
          have hD2 := hide (fun W (h : Below B5 w5 W) => hDg.out pd W h)
          have hRD2 := hide (fun W (h : Below B5 w5 W) => hRDg.out pd W h)
          obtain ⟨m1, hm1⟩ : ∃ m, m = RW.dgr E dev := ⟨_, rfl⟩
          obtain ⟨m2, hm2⟩ : ∃ m, m = RW.dgr E pd := ⟨_, rfl⟩
          rw [← hm1] at hD1 hRD1
          rw [← hm2] at hD2 hRD2
          clear hm1 hm2
          have tok1 : True := trivial
          have tok2 : True := trivial
          go_wp2_with (first
            | (go_at_call 17; refine hC1.out.mono ?_; rintro e w6 ⟨u5, rfl, p1, p⟩; have l1 := hide p1; have hb6 := hide (hb.out.trans (p.mono (s5.out _ hb.out))); clear p p1)
            | (go_at_call 18; refine (hRCs.out _ hb6.out).mono ?_; rintro e w7 ⟨u6, rfl, p1, p⟩; have l2 := hide p1; have l3 := hide (l1.out.next p); have hb7 := hide (hb6.out.trans (p.mono (s5.out _ hb6.out))); clear p p1)
            | (go_at_call 16; refine (hsl.out _ _ _ l3.out l2.out).mono ?_; rintro e w8 ⟨rfl, p⟩; have hb8 := hide (hb7.out.trans (p.mono (s5.out _ hb7.out))); clear p)
            | (go_at_call 19; have _t := tok1; refine (hD1.out _ hb8.out).mono ?_; rintro e w9 ⟨rfl, p⟩; have hb9 := hide (hb8.out.trans (p.mono (s5.out _ hb8.out))); clear p tok1)
            | (go_at_call 20; have _t := tok2; refine (hRD1.out _ hb9.out).mono ?_; rintro e w10 ⟨rfl, p⟩; have hb10 := hide (hb9.out.trans (p.mono (s5.out _ hb9.out))); clear p tok2)
            | (go_at_call 10; refine (hPd.out _).mono ?_; rintro e w' ⟨rfl, rfl⟩)
            | (go_at_call 19; refine (hD2.out _ hb10.out).mono ?_; rintro e w11 ⟨rfl, p⟩; have hb11 := hide (hb10.out.trans (p.mono (s5.out _ hb10.out))); clear p)
            | (go_at_call 20; refine (hRD2.out _ hb11.out).mono ?_; rintro e w12 ⟨rfl, p⟩; have hb12 := hide (hb11.out.trans (p.mono (s5.out _ hb11.out))); clear p))
          go_roundw
          case rel => exact ⟨j + 1, by go_num, by omega, r5.out _ hb12.out⟩
          case measure => simp [intOf]; omega
    · obtain rfl : j = 2 := by omega
      go_wp2
      go_ret
      exact ⟨rfl, hBH.out ▸ rb.out _ hBw.out⟩
end Go.Proofs.Ytbmlfejlmedmgaa

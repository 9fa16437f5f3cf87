/-
  Package royaltylaw23: JournalFacts: it returns true; only new memory is written.
-/
import Derived.Test.YtllbphanfahkkaaGreatDoorJf1
import Derived.Test.YtllbphanfahkkaaGreatDoorMQ5
namespace Go.Proofs.YtllbphanfahkkaaGreatDoor
open Go.RowKit RG
theorem intJ_cell {W : World} {v : Value} {l : List Int} {j : Nat} {z : Int} (h : IntR W v l) (hz : l[j]? = some z) : ∃ g o c, v = .slice (some ⟨g, o, none⟩) l.length c ∧ W.cell? ⟨g, o + j, none⟩ = some (.int .i64 z) := by
  obtain ⟨a, c, rfl, _, h2⟩ := h
  rcases h2 with rfl | ⟨b, o, rfl, hb, hc⟩
  · simp at hz
  · refine ⟨b, o, c, rfl, ?_⟩
    have := hc j z hz 0 _ rfl
    rwa [Nat.mul_one, Nat.add_zero] at this
theorem setCell_sameJ (w : World) (b : Nat) (cs : Array Value) (t : TypeId) (i : Nat) (v : Value) (h : w.heap[b]? = some (.cells cs t (0, 0))) : (w.setCell ⟨b, i, none⟩ v).heap[b]? = some (.cells (cs.setIfInBounds i v) t (0, 0)) := by
  unfold World.setCell
  simp only [Array.getElem?_modify, if_pos, h, Option.map_some]
  rfl
theorem wpList_bs_J {ops : Array Oper} {rest : List Oper} {o : Oper} {a : Act} {w : World} {Q : Exit → Act → World → Prop} (hgd : o.guard = none) (x : Operand) (ho : o.op = .buildSlice 68 1 #[(0, x)]) (y : RW.Fc) (cs : Array Value) (hcs : cs = RW.fcells y.1 y.2) (hx : a.eval x = .agg cs)
    (k : wpList Tryz.prog ops Q rest (a.put o.dst (.slice (some ⟨w.heap.size, 0, none⟩) 1 1)) (w.alloc (.cells cs 70))) : wpList Tryz.prog ops Q (o :: rest) a w := by
  subst hcs
  refine wpList_plain hgd fun K hK => ?_
  unfold Oper.wp
  rw [op_bs_f ho hx]
  exact hK _ _ k
section
variable {K : Nat → Int} {B b n db vb jb : Nat} {S : RW.Dk} {rs : List ByteArray} {br : Bool} {w W W' : World}
/-- rows of facts lie in other blocks than a disk and a journal -/
theorem own_tchF {u : Value} {N : Nat} {l : List RW.Fc} (h : OwnF W N u l) (hJ : JW K B b n db vb jb S rs br w W) (hT : TchJ jb b db vb W W') : OwnF W' N u l := by
  obtain ⟨pv, h1⟩ := hJ.d
  obtain ⟨rv, h2⟩ := hJ.j
  refine own_keep h fun g hg => ?_
  obtain ⟨_, hl, c, fr, hc⟩ := own_blk h hg
  exact hT.block g hl (blocks_ne hc h2.b (by decide)) (blocks_ne hc h1.row (by decide)) (blocks_ne hc h1.dur (by decide)) (blocks_ne hc h1.vis (by decide)) (fun cur fr2 e => by rw [hc] at e; injection e with e; injection e with _ e; exact absurd e (by decide))
theorem own_nextF {u : Value} {N : Nat} {l : List RW.Fc} (h : OwnF W N u l) (hB : Below W.heap.size W W') : OwnF W' N u l := own_keep h fun g hg => hB.block g (own_blk h hg).2.1
theorem own_nextS {u : Value} {N : Nat} {l : List ByteArray} (h : StrsOwn W N u l) (hB : Below W.heap.size W W') : StrsOwn W' N u l := own_keep h fun g hg => hB.block g (own_blk h hg).2.1
end
/-- what a round of JournalFacts finds and leaves: j groups were tried, the first a facts are sure, the first c were tried -/
structure FxR (K : Nat → Int) (B b db vb jb m N : Nat) (F : List RW.Fc) (fa : Option Addr) (fc j a c : Nat) (w1 W : World) : Prop where
  out : ∃ S rs br, JW K B b 9000 db vb jb S rs br w1 W ∧ OwnF W B (.slice fa N fc) F ∧ RW.EndP (RW.sha K) 9000 S ((F.take a).map RW.encJ) ((F.take c).map RW.encJ) ∧ S.ok 9000 ∧ S.pend.length ≤ 1 ∧ (j < m → j < 8 → c < N → RW.JInv (RW.sha K) 9000 S ((F.take c).map RW.encJ) ∧ rs = (F.take c).map RW.encJ ∧ S.left = 0 ∧ br = false)
attribute [local go_sem ↓] ldRow_fact
set_option maxRecDepth 100000 in
set_option maxHeartbeats 8000000 in
theorem facts_any (lv : Value) (l : List RW.Fc) (hll : l.length ≤ 9223372036854775807) (hls : ∀ x ∈ l, x.2.size ≤ 9223372036854775807) (sv : Value) (zs : List Int) (hzl : zs.length ≤ 9223372036854775807) (hzb : ∀ x ∈ zs, -9223372036854775808 ≤ x ∧ x ≤ 9223372036854775807) (d : Int) (hd : -9223372036854775808 ≤ d) (hd2 : d ≤ 9223372036854775807) (kv : Value) (keep : List Int) (hkl : keep.length ≤ 9223372036854775807) (torn : Int) (K : Nat → Int) (ks : Array Value) (hks : RW.WsOk ks K) (a a2 : Addr) (w : World) (hlv : FactsV w lv l) (hsv : IntR w sv zs) (hkp : IntR w kv keep) (hK : KLaid w ks) (hg : w.cell? ⟨1, 0, none⟩ = some (RW.jeW a)) (hge : w.cell? ⟨0, 0, none⟩ = some (RW.eW a2)) :
    Calls Tryz.prog 8 #[lv, sv, .int .i64 d, kv, .int .i64 torn] w fun e w' => e = .returned (.bool true) ∧ Below w.heap.size w w' := by
  obtain ⟨kc, hkc, hkc1, hkc3⟩ := RW.pick_nat d 3 (by decide)
  have hPk := hide (fun W => pick_any d 3 hd hd2 (by decide) (by decide) W)
  obtain ⟨pd, hpd⟩ : ∃ pd, pd = RW.pickI d 3 := ⟨_, rfl⟩
  have hpd1 : 0 ≤ pd := by rw [hpd]; exact (RW.pickI_bd d 3 (by decide)).1
  have hpd2 : pd < 3 := by rw [hpd]; exact (RW.pickI_bd d 3 (by decide)).2
  rw [← hpd] at hPk hkc
  have hkcH := hide hkc
  clear hpd hkc
  have hgl := hide (cell_ltJ hg)
  have hgl2 := hide (cell_ltJ hge)
  have hnx0 := hide (fun W (hW : Below w.heap.size w W) => (show KLaid W ks ∧ W.cell? ⟨1, 0, none⟩ = some (RW.jeW a) ∧ W.cell? ⟨0, 0, none⟩ = some (RW.eW a2) ∧ FactsV W lv l ∧ IntR W sv zs ∧ IntR W kv keep from ⟨RW.jklaid hK hW (Nat.le_refl _), (World.cell?_of_block (a := ⟨1, 0, none⟩) (hW.block _ hgl.out)).trans hg, (World.cell?_of_block (a := ⟨0, 0, none⟩) (hW.block _ hgl2.out)).trans hge, RowV.next hlv hW, RowV.next hsv hW, RowV.next hkp hW⟩))
  have hSn := hide (sane_any K ks hks a w hK hg)
  obtain ⟨la, lc, elv, _, _⟩ := id hlv
  subst elv
  obtain ⟨sa, sc, esv, _, _⟩ := id hsv
  subst esv
  obtain ⟨ka, kcap, ekv, _, _⟩ := id hkp
  subst ekv
  obtain ⟨n, hn⟩ : ∃ n, n = l.length := ⟨_, rfl⟩
  have hnH := hide hn
  obtain ⟨m, hm⟩ : ∃ m, m = zs.length := ⟨_, rfl⟩
  have hmH := hide hm
  obtain ⟨q, hq⟩ : ∃ q, q = keep.length := ⟨_, rfl⟩
  have hqH := hide hq
  have hlsH := hide hls
  have hzbH := hide hzb
  have hksH := hide hks
  rw [← hn] at hnx0 hll ⊢
  rw [← hm] at hnx0 hzl ⊢
  rw [← hq] at hnx0 hkl ⊢
  clear hK hg hge hlv hsv hkp hgl hgl2 hn hm hq hls hzb hks
  go_enter Tryz.func8, Tryz.ntmps8
  go_upto_region 2 with (go_at_call 9; refine hSn.out.mono ?_; rintro e w1 ⟨rfl, hB1⟩; have hB1H := hide hB1; clear hB1)
  obtain ⟨B, hB⟩ : ∃ B, B = w1.heap.size := ⟨_, rfl⟩
  have hBH := hide hB
  have hwB := hide (show w.heap.size ≤ B by rw [hB]; exact hB1H.out.size)
  have hnx := hide (fun W (hW : Below B w1 W) => hnx0.out W (hB1H.out.trans (hW.mono hwB.out)))
  have hN := hide (new_any 9000 (by decide) (by decide) w1)
  rw [← hB] at hN
  clear hB hSn hnx0
  go_upto_region 3 with (go_at_call 25; refine hN.out.mono ?_; rintro e w2 ⟨b, rfl, hd1, hB2⟩; obtain ⟨db, vb, hd1⟩ := hd1; have hD2 := hide hd1; have hB2H := hide hB2; clear hd1 hB2)
  have hOp := hide (open_inv hksH.out hD2.out (RW.inv_dk0 9000) (hnx.out w2 hB2H.out).1 (hnx.out w2 hB2H.out).2.1)
  go_upto_region 4 with (go_at_call 26; refine hOp.out.mono ?_; rintro e w3 ⟨jb, rfl, h2, ht2⟩; have hJ3 := hide (show JW K B b 9000 db vb jb (RW.dk0 9000) [] false w1 w3 from ⟨h2.d, h2.j, hB2H.out.trans h2.bel⟩); clear h2 ht2)
  clear hOp hN hD2 hB2H
  obtain ⟨B3, hB3⟩ : ∃ B, B = w3.heap.size := ⟨_, rfl⟩
  have hB3H := hide hB3
  have hB3B := hide (show B ≤ B3 by rw [hB3]; exact hJ3.out.hB)
  clear hB3
  have hup := hide (fun W (hW : Below B3 w3 W) => (show Below B w1 W from hJ3.out.bel.trans (hW.mono hB3B.out)))
  obtain ⟨M, hM⟩ : ∃ M, M = min n 15 := ⟨_, rfl⟩
  have hMH := hide hM
  have hM15 : M ≤ 15 := by omega
  clear hM
  go_wp2
  go_loopw [16, 17, 18] (fun u i _ wr => ∃ (j : Nat), i = .int .i64 j ∧ j ≤ M ∧ Hid (OwnF wr B3 u (RW.accJ l j) ∧ Below B3 w3 wr)) (fun _ i _ _ => M - (intOf i).toNat)
  case atStart => exact ⟨0, rfl, Nat.zero_le _, by rw [RW.accJ_zero]; exact ⟨rfl, .inl ⟨rfl, rfl⟩⟩, by rw [hB3H.out]; exact Below.refl _ _⟩
  case round =>
    obtain ⟨j, rfl, hj, hQ⟩ := hrel
    obtain ⟨wo, hwo⟩ : ∃ wo, wo = wr := ⟨_, rfl⟩
    subst hwo
    have hO := hide hQ.out.1
    have hBo := hide hQ.out.2
    clear hQ
    obtain ⟨q1, hq1⟩ : ∃ c : Bool, c = decide (j < M) := ⟨_, rfl⟩
    have hq1H := hide hq1
    clear hq1
    go_upto_region 8 with fail
    go_cut [60] (fun s wx => s = .bool q1 ∧ wx = wo)
    case first =>
      by_cases h1 : j < n
      · by_cases h2 : j < 15
        · have h2i : (j : Int) < 15 := by omega
          go_wp2
          all_goals go_meet
          all_goals exact ⟨by rw [hq1H.out, decide_eq_true (show j < M by have := hMH.out; omega)] <;> rfl, rfl⟩
        · have h2i : ¬ (j : Int) < 15 := by omega
          go_wp2
          all_goals go_meet
          all_goals exact ⟨by rw [hq1H.out, decide_eq_false (show ¬ j < M by omega)] <;> rfl, rfl⟩
      · go_wp2
        all_goals go_meet
        all_goals exact ⟨by rw [hq1H.out, decide_eq_false (show ¬ j < M by have := hMH.out; omega)] <;> rfl, rfl⟩
    case rest =>
    obtain ⟨rfl, hwx⟩ := hcut
    have hwx' := hwx.symm
    subst hwx'
    cases q1
    · obtain rfl : M = j := by have := of_decide_eq_false hq1H.out.symm; omega
      clear hq1H hMH
      obtain ⟨F, hF⟩ : ∃ F, F = RW.accJ l M := ⟨_, rfl⟩
      have hFok := hide (show ∀ x ∈ F, RW.vdJ x = true ∧ x.2.size ≤ 100 by rw [hF]; exact RW.accJ_ok l M)
      obtain ⟨N, hN⟩ : ∃ N, N = F.length := ⟨_, rfl⟩
      have hNH := hide hN
      have hN15 : N ≤ 15 := by rw [hN, hF]; exact Nat.le_trans (RW.accJ_len l M) hM15
      have hO2 := hide (show OwnF wo B3 u16 F by rw [hF]; exact hO.out)
      obtain ⟨fa, fc, eu⟩ := own_shape hO2.out
      rw [← hN] at eu
      subst eu
      have hOo := hide (show OwnF wo B (.slice fa N fc) F from own_base hO2.out hB3B.out)
      have hJo := hide (hJ3.out.next (by have h := hBo.out; rw [hB3H.out] at h; exact h))
      clear hN hF hO hO2 hJ3 hBo hup hB3H hB3B hlsH hnH hj hM15
      go_wp2
      go_loopw [19, 20, 21] (fun u1 u2 i wr => ∃ (j p c : Nat), i = .int .i64 j ∧ u1 = .int .i64 p ∧ u2 = .int .i64 c ∧ j ≤ m ∧ j ≤ 8 ∧ p ≤ c ∧ c ≤ N ∧ Hid (FxR K B b db vb jb m N F fa fc j p c w1 wr)) (fun _ _ i _ => 8 - (intOf i).toNat)
      case atStart => exact ⟨0, 0, 0, rfl, rfl, rfl, Nat.zero_le _, Nat.zero_le _, Nat.le_refl _, Nat.zero_le _, ⟨⟨RW.dk0 9000, [], false, hJo.out, hOo.out, RW.EndP.weak (RW.inv_dk0 9000) _, (fun x hx => by cases hx), Nat.zero_le _, fun _ _ _ => ⟨RW.inv_dk0 9000, rfl, rfl, rfl⟩⟩⟩⟩
      case round =>
        obtain ⟨j, p0, c0, rfl, rfl, rfl, hj, hj8, hpc, hcN, hQ⟩ := hrel
        obtain ⟨wo, hwo⟩ : ∃ wo, wo = wr := ⟨_, rfl⟩
        subst hwo
        clear hJo hOo
        obtain ⟨q1, hq1⟩ : ∃ c : Bool, c = decide (j < m ∧ j < 8 ∧ c0 < N) := ⟨_, rfl⟩
        have hq1H := hide hq1
        clear hq1
        go_upto_region 17 with fail
        go_cut [94] (fun s wx => s = .bool q1 ∧ wx = wo)
        case first =>
          by_cases h1 : j < m
          · by_cases h2 : j < 8
            · have h2i : (j : Int) < 8 := by omega
              by_cases h3 : c0 < N
              · go_wp2
                all_goals go_meet
                all_goals exact ⟨by rw [hq1H.out, decide_eq_true (show j < m ∧ j < 8 ∧ c0 < N from ⟨h1, h2, h3⟩)] <;> rfl, rfl⟩
              · go_wp2
                all_goals go_meet
                all_goals exact ⟨by rw [hq1H.out, decide_eq_false (show ¬ (j < m ∧ j < 8 ∧ c0 < N) from fun h => h3 h.2.2)] <;> rfl, rfl⟩
            · have h2i : ¬ (j : Int) < 8 := by omega
              go_wp2
              all_goals go_meet
              all_goals exact ⟨by rw [hq1H.out, decide_eq_false (show ¬ (j < m ∧ j < 8 ∧ c0 < N) from fun h => h2 h.2.1)] <;> rfl, rfl⟩
          · go_wp2
            all_goals go_meet
            all_goals exact ⟨by rw [hq1H.out, decide_eq_false (show ¬ (j < m ∧ j < 8 ∧ c0 < N) from fun h => h1 h.1)] <;> rfl, rfl⟩
        case rest =>
        obtain ⟨rfl, hwx⟩ := hcut
        have hwx' := hwx.symm
        subst hwx'
        cases q1
        case true =>
          obtain ⟨h1, h2, h3⟩ := of_decide_eq_true hq1H.out.symm
          obtain ⟨S, rs, br, hJ, hO, _, _, _, hL⟩ := hQ.out.out
          obtain ⟨hI, rfl, h0, rfl⟩ := hL h1 h2 h3
          have hI := hide hI
          have h0 := hide h0
          have hJ := hide hJ
          have hO := hide hO
          clear hQ hL hq1H
          obtain ⟨z, hz⟩ : ∃ z, zs[j]? = some z := ⟨_, List.getElem?_eq_getElem (by rw [← hmH.out]; exact h1)⟩
          obtain ⟨g0, o0, sc', e', hck⟩ := intJ_cell (by have h := (hnx.out wo hJ.out.bel).2.2.2.2.1; rw [hmH.out] at h; exact h) hz
          cases e'
          have hzr := hzbH.out z (List.mem_of_getElem? hz)
          obtain ⟨pk, hpk, hpk4⟩ : ∃ k : Nat, RW.pickI z 4 = (k : Int) ∧ k < 4 := ⟨(RW.pickI z 4).toNat, by have := RW.pickI_bd z 4 (by decide); omega, by have := RW.pickI_bd z 4 (by decide); omega⟩
          have hP4 := hide (fun W => pick_any z 4 hzr.1 hzr.2 (by decide) (by decide) W)
          rw [hpk] at hP4
          clear hpk hz hzr
          obtain ⟨c2, hc2⟩ : ∃ c2, c2 = min N (c0 + 1 + pk) := ⟨_, rfl⟩
          have hmin : min (N : Int) ((c0 : Int) + 1 + (pk : Int)) = (c2 : Int) := by omega
          have hc02 : c0 < c2 := by omega
          have hc2N : c2 ≤ N := by omega
          clear hc2
          obtain ⟨N2, hN2⟩ : ∃ N, N = wo.heap.size := ⟨_, rfl⟩
          have hN2H := hide hN2
          clear hN2
          go_upto_region 22 with (go_at_call 15; refine (hP4.out _).mono ?_; rintro e w' ⟨rfl, rfl⟩)
          clear hck hmin hP4
          go_wp2
          go_loopw [22, 23] (fun u k wr => ∃ (i : Nat), k = .int .i64 i ∧ c0 ≤ i ∧ i ≤ c2 ∧ Hid (StrsOwn wr N2 u (((F.take i).drop c0).map RW.encJ) ∧ Below N2 wo wr)) (fun _ k _ => c2 - (intOf k).toNat)
          case atStart => exact ⟨c0, rfl, Nat.le_refl _, Nat.le_of_lt hc02, by rw [List.drop_of_length_le (by rw [List.length_take]; omega)]; exact strs_nil _ _, by rw [hN2H.out]; exact Below.refl _ _⟩
          case round =>
            obtain ⟨k, rfl, hk1, hk2, hQ2⟩ := hrel
            obtain ⟨wi, hwi⟩ : ∃ wi, wi = wr := ⟨_, rfl⟩
            subst hwi
            have hu := hide hQ2.out.1
            have hBi := hide hQ2.out.2
            have hBi' := hide (show Below wo.heap.size wo wi by have h := hBi.out; rw [hN2H.out] at h; exact h)
            clear hQ2
            by_cases hkc2 : k < c2
            · obtain ⟨x, hx⟩ : ∃ x, F[k]? = some x := ⟨_, List.getElem?_eq_getElem (by rw [← hNH.out]; omega)⟩
              obtain ⟨g1, o1, lc', e', hcell⟩ := factJ_cell (by have h := hO.out.facts; rw [hNH.out] at h; exact h) hx
              cases e'
              have hld := hcell wi hBi'.out
              have hxok := hFok.out x (List.mem_of_getElem? hx)
              have hgr := hide (RW.grpJ hk1 hx)
              have hlim := RW.valid_lims x.1 x.2.size hxok.1
              have hEn := hide (encode_yes x.1 x.2 wi hxok.1 (by have := hxok.2; omega) hlim.2.2.2)
              obtain ⟨E, hE⟩ : ∃ E, E = RW.encJ x := ⟨_, rfl⟩
              rw [show (⟨(RW.encL x.1 x.2.data.toList).toArray⟩ : ByteArray) = E from hE.symm] at hEn
              rw [← hE] at hgr
              obtain ⟨cs, hcs⟩ : ∃ cs, cs = RW.fcells x.1 x.2 := ⟨_, rfl⟩
              rw [← hcs] at hEn
              rw [show RW.fv x = .agg (RW.fcells x.1 x.2) from rfl, ← hcs] at hld
              clear hcs hE hx hcell hxok hlim
              go_upto_region 26 with (go_at_call 35; refine hEn.out.mono ?_; rintro e w7 ⟨rfl, hB7⟩; have hB7H := hide hB7; clear hB7)
              have hu7 := own_nextS hu.out hB7H.out
              have h7s : N2 ≤ w7.heap.size := by have h4 := hBi'.out.size; have h5 := hB7H.out.size; have h6 := hN2H.out; omega
              obtain ⟨v', W', hrun, ho', hcg, _⟩ := run_app_str E hu7 h7s (by rw [RW.grpJ_len F c0 k (by rw [← hNH.out]; omega)]; omega)
              rw [← hgr.out] at ho'
              have hoH := hide ho'
              have hB8 := hide (show Below N2 wo W' from hBi.out.trans ((hB7H.out.mono (by have h4 := hBi'.out.size; have h6 := hN2H.out; omega)).trans (hcg.belowJ (fun k hk => (own_blk hu7 hk).1) h7s)))
              clear hu7 ho' hcg hld
              go_wp2_with (at_builtin; refine wpList_app_run rfl (.tmp 123) (.tmp 125) rfl rfl rfl hrun ?_)
              go_roundw
              case rel => exact ⟨k + 1, by go_num, by omega, by omega, hoH.out, hB8.out⟩
              case measure => simp [intOf]; omega
            · obtain rfl : c2 = k := by omega
              have hJi := hide (hJ.out.next hBi'.out)
              have hOi := hide (own_nextF hO.out hBi'.out)
              obtain ⟨L, hLe⟩ : ∃ L, L = ((F.take c2).drop c0).map RW.encJ := ⟨_, rfl⟩
              have huL := hide (show StrsOwn wi N2 u22 L by rw [hLe]; exact hu.out)
              have hLl := hide (show L.length ≤ 15 by rw [hLe, RW.grpJ_len F c0 c2 (by rw [← hNH.out]; exact hc2N)]; omega)
              have hLs := hide (show ∀ r ∈ L, r.size ≤ 65536 by rw [hLe]; exact fun r hr => by have := RW.encs_ok (F := (F.take c2).drop c0) (fun x hx => (hFok.out x (List.mem_of_mem_take (List.mem_of_mem_drop hx))).2) r hr; omega)
              have hcat := hide (show (F.take c0).map RW.encJ ++ L = (F.take c2).map RW.encJ by rw [hLe]; exact (RW.take_mapJ RW.encJ F c0 c2 (by omega)).symm)
              have hfit := hide (show (RW.stos (RW.sha K) RW.z32 ((F.take c0).map RW.encJ)).length + (RW.stos (RW.sha K) (RW.hds (RW.sha K) RW.z32 ((F.take c0).map RW.encJ)) L).length ≤ 9000 by rw [hLe]; exact RW.fitJ (RW.sha K) (RW.sha_len K) (fun x hx => (hFok.out x hx).2) (by rw [← hNH.out]; exact hN15) c0 c2 (by omega) (by rw [← hNH.out]; exact hc2N))
              have hNB := hide (show ∀ W, JW K B b 9000 db vb jb S ((F.take c0).map RW.encJ) false w1 W → Below B w1 W from fun W h => h.bel)
              clear hLe hu hJ hO hBi hBi'
              obtain ⟨q2, hq2⟩ : ∃ c : Bool, c = decide (j + 1 = m ∨ j = 7 ∨ c2 = N) := ⟨_, rfl⟩
              have hq2H := hide hq2
              clear hq2
              go_upto_region 27 with fail
              go_cut [141] (fun s wx => s = .bool q2 ∧ wx = wi)
              case first =>
                by_cases h4 : j + 1 = m
                · have he1 : ((j : Int) == (m : Int) - 1) = true := by simp; omega
                  have h4H := hide h4
                  clear h4
                  go_wp2
                  all_goals go_meet
                  all_goals exact ⟨by rw [hq2H.out, decide_eq_true (show j + 1 = m ∨ j = 7 ∨ c2 = N from .inl h4H.out)] <;> rfl, rfl⟩
                · have he1 : ((j : Int) == (m : Int) - 1) = false := by simp; omega
                  have h4H := hide h4
                  clear h4
                  by_cases h5 : j = 7
                  · have he2 : ((j : Int) == 7) = true := by simp; omega
                    have h5H := hide h5
                    clear h5
                    go_wp2
                    all_goals go_meet
                    all_goals exact ⟨by rw [hq2H.out, decide_eq_true (show j + 1 = m ∨ j = 7 ∨ c2 = N from .inr (.inl h5H.out))] <;> rfl, rfl⟩
                  · have he2 : ((j : Int) == 7) = false := by simp; omega
                    have h5H := hide h5
                    clear h5
                    by_cases h6 : c2 = N
                    · have he3 : ((c2 : Int) == (N : Int)) = true := by simp; omega
                      have h6H := hide h6
                      clear h6
                      go_wp2
                      all_goals go_meet
                      all_goals exact ⟨by rw [hq2H.out, decide_eq_true (show j + 1 = m ∨ j = 7 ∨ c2 = N from .inr (.inr h6H.out))] <;> rfl, rfl⟩
                    · have he3 : ((c2 : Int) == (N : Int)) = false := by simp; omega
                      have h6H := hide h6
                      clear h6
                      go_wp2
                      all_goals go_meet
                      all_goals exact ⟨by rw [hq2H.out, decide_eq_false (show ¬ (j + 1 = m ∨ j = 7 ∨ c2 = N) from fun h => h.elim h4H.out fun h => h.elim h5H.out h6H.out)] <;> rfl, rfl⟩
              case rest =>
              obtain ⟨rfl, hwx⟩ := hcut
              have hwx' := hwx.symm
              subst hwx'
              cases q2
              case false =>
                clear hq2H
                obtain ⟨S', hap, hI2, h02⟩ := RW.japp_fit (RW.sha_len K) hI.out h0.out hLs.out hfit.out
                rw [hcat.out] at hap hI2
                have hap := hide hap
                have hI2 := hide hI2
                have h02 := hide h02
                have hAp := hide (show Calls Tryz.prog 11 #[.pointer (some ⟨jb, 0, none⟩), u22] wi fun e w' => e = .returned (.int .i64 0) ∧ JW K B b 9000 db vb jb S' ((F.take c2).map RW.encJ) false w1 w' ∧ OwnF w' B (.slice fa N fc) F from by
                  refine (hJi.out.append hksH.out (by rw [hI.out.pend]; decide) hI.out.fits (strs_own huL.out) (by have := hLl.out; omega) (hnx.out _ hJi.out.bel).1).mono ?_
                  rintro e w' ⟨rfl, g2, _, g4⟩
                  rw [hap.out] at g2 ⊢
                  exact ⟨rfl, g2, own_tchF hOi.out hJi.out g4⟩)
                go_wp2_with (go_at_call 11; refine hAp.out.mono ?_; rintro e w8 ⟨rfl, g2, g3⟩; have hJ8 := hide g2; have hO8 := hide g3; clear g2 g3)
                go_roundw
                case rel => exact ⟨j + 1, c2, c2, by go_num, rfl, rfl, by omega, by omega, Nat.le_refl _, hc2N, ⟨⟨S', _, false, hJ8.out, hO8.out, RW.EndP.inv hI2.out, (fun x hx => by rw [hI2.out.pend] at hx; cases hx), (by rw [hI2.out.pend]; exact Nat.zero_le _), fun _ _ _ => ⟨hI2.out, rfl, h02.out, rfl⟩⟩⟩⟩
                case measure => simp [intOf]; omega
              case true =>
                have hend := hide (of_decide_eq_true hq2H.out.symm)
                clear hq2H
                obtain ⟨hcu, hI6⟩ := RW.inv_cutAt hI.out kc hkc1
                have hI6 := hide hI6
                have hCu := hide (show Calls Tryz.prog 30 #[.pointer (some ⟨b, 0, none⟩), .int .i64 (1 + pd)] wi fun e w' => e = .returned (.int .i64 0) ∧ JW K B b 9000 db vb jb (S.cutAt kc) ((F.take c0).map RW.encJ) false w1 w' ∧ StrsOwn w' N2 u22 L ∧ OwnF w' B (.slice fa N fc) F from by
                  rw [hkcH.out]
                  refine (hJi.out.cut (kc : Int) (by omega)).mono ?_
                  rintro e w' ⟨g1, g2, _, g4⟩
                  rw [hcu] at g1 g2
                  exact ⟨g1, g2, own_tchJ huL.out hJi.out (.of_tch g4), own_tchF hOi.out hJi.out (.of_tch g4)⟩)
                clear hcu
                go_upto_region 29 with (first
                  | (go_at_call 15; refine (hPk.out _).mono ?_; rintro e w' ⟨rfl, rfl⟩)
                  | (go_at_call 30; refine hCu.out.mono ?_; rintro e w6 ⟨rfl, g2, g3, g4⟩; have hJ6 := hide g2; have hu6 := hide g3; have hO6 := hide g4; clear g2 g3 g4))
                clear hCu hJi huL hOi
                obtain ⟨X, rs', br', S', hap, hcs⟩ : ∃ x rs' br' S', RW.japp (RW.sha K) 9000 (S.cutAt kc) ((F.take c0).map RW.encJ) false L = (x, rs', br', S') ∧ ((x = 0 ∧ RW.JInv (RW.sha K) 9000 S' ((F.take c2).map RW.encJ)) ∨ (x = 231 ∧ S.cutAt kc = S') ∨ (x = 221 ∧ RW.EndP (RW.sha K) 9000 S' ((F.take c0).map RW.encJ) ((F.take c2).map RW.encJ) ∧ S'.pend.length = 1 ∧ S'.ok 9000)) := by
                  rcases RW.japp_end (RW.sha_len K) hI6.out L hLs.out with ⟨S', g1, g2, _⟩ | g1 | ⟨S', g1, _, _, g3, g4, g5⟩
                  · exact ⟨_, _, _, _, g1, .inl ⟨rfl, hcat.out ▸ g2⟩⟩
                  · exact ⟨_, _, _, _, g1, .inr (.inl ⟨rfl, rfl⟩)⟩
                  · exact ⟨_, _, _, _, g1, .inr (.inr ⟨rfl, hcat.out ▸ g3, g4, g5⟩)⟩
                have hap := hide hap
                have hcs := hide hcs
                have hAp := hide (show Calls Tryz.prog 11 #[.pointer (some ⟨jb, 0, none⟩), u22] w6 fun e w' => e = .returned (.int .i64 X) ∧ JW K B b 9000 db vb jb S' rs' br' w1 w' ∧ OwnF w' B (.slice fa N fc) F from by
                  refine (hJ6.out.append hksH.out (by rw [hI6.out.pend]; decide) hI6.out.fits (strs_own hu6.out) (by have := hLl.out; omega) (hnx.out _ hJ6.out.bel).1).mono ?_
                  rintro e w' ⟨rfl, g2, _, g4⟩
                  rw [hap.out] at g2 ⊢
                  exact ⟨rfl, g2, own_tchF hO6.out hJ6.out g4⟩)
                rcases hcs.out with ⟨rfl, hI2⟩ | ⟨rfl, rfl⟩ | ⟨rfl, hE, hp1, hok⟩
                · have hI2 := hide hI2
                  clear hcs hap
                  go_wp2_with (go_at_call 11; refine hAp.out.mono ?_; rintro e w8 ⟨rfl, g2, g3⟩; have hJ8 := hide g2; have hO8 := hide g3; clear g2 g3)
                  go_roundw
                  case rel => exact ⟨j + 1, c2, c2, by go_num, rfl, rfl, by omega, by omega, Nat.le_refl _, hc2N, ⟨⟨S', _, _, hJ8.out, hO8.out, RW.EndP.inv hI2.out, (fun x hx => by rw [hI2.out.pend] at hx; cases hx), (by rw [hI2.out.pend]; exact Nat.zero_le _), fun _ _ _ => False.elim (by have := hend.out; omega)⟩⟩⟩
                  case measure => simp [intOf]; omega
                · clear hcs hap
                  go_wp2_with (go_at_call 11; refine hAp.out.mono ?_; rintro e w8 ⟨rfl, g2, g3⟩; have hJ8 := hide g2; have hO8 := hide g3; clear g2 g3)
                  go_roundw
                  case rel => exact ⟨j + 1, c0, c2, by go_num, rfl, rfl, by omega, by omega, Nat.le_of_lt hc02, hc2N, ⟨⟨S.cutAt kc, _, _, hJ8.out, hO8.out, RW.EndP.weak hI6.out _, (fun x hx => by rw [hI6.out.pend] at hx; cases hx), (by rw [hI6.out.pend]; exact Nat.zero_le _), fun _ _ _ => False.elim (by have := hend.out; omega)⟩⟩⟩
                  case measure => simp [intOf]; omega
                · have hE := hide hE
                  have hp1 := hide hp1
                  have hok := hide hok
                  clear hcs hap
                  go_wp2_with (go_at_call 11; refine hAp.out.mono ?_; rintro e w8 ⟨rfl, g2, g3⟩; have hJ8 := hide g2; have hO8 := hide g3; clear g2 g3)
                  go_roundw
                  case rel => exact ⟨j + 1, c0, c2, by go_num, rfl, rfl, by omega, by omega, Nat.le_of_lt hc02, hc2N, ⟨⟨S', _, _, hJ8.out, hO8.out, hE.out, hok.out, Nat.le_of_eq hp1.out, fun _ _ _ => False.elim (by have := hend.out; omega)⟩⟩⟩
                  case measure => simp [intOf]; omega
        case false =>
          clear hq1H
          obtain ⟨S, rs, br, hJ, hO, hE, hok, _, _⟩ := hQ.out.out
          have hJ := hide hJ
          have hO := hide hO
          have hE := hide hE
          have hok := hide hok
          clear hQ
          obtain ⟨M2, hM2⟩ : ∃ M, M = min q 20 := ⟨_, rfl⟩
          have hKp := hide (fun W (hW : Below B w1 W) => (show IntsB W.heap.size W (.slice ka M2 kcap) (keep.take 20) from hM2 ▸ ints_rowJ (ints_first (hnx.out W hW).2.2.2.2.2 hqH.out)))
          have hqk := row_cap (hnx.out wo hJ.out.bel).2.2.2.2.2
          have hMq : M2 ≤ q := by rw [hM2]; exact Nat.min_le_left _ _
          have hMc : M2 ≤ kcap := Nat.le_trans hMq hqk
          have hmin : min (q : Int) 20 = (M2 : Int) := by rw [hM2]; omega
          clear hM2
          obtain ⟨c1, hcr, hLi⟩ := hE.out (keep.take 20) torn
          obtain ⟨t, hLi9, ht⟩ : ∃ t, RW.Lies (RW.sha K) 9000 c1 ((F.take t).map RW.encJ) ∧ (t = p0 ∨ t = c0) := hLi.elim (fun h => ⟨_, h, .inl rfl⟩) (fun h => ⟨_, h, .inr rfl⟩)
          have htN : t ≤ N := by omega
          have htH := hide ht
          have hcr := hide hcr
          have hLi9 := hide hLi9
          clear hLi hE ht
          obtain ⟨R, hR⟩ : ∃ R, R = (F.take t).map RW.encJ := ⟨_, rfl⟩
          have hRH := hide hR
          have hRl := hide (show R.length = t by rw [hR, List.length_map, List.length_take, ← hNH.out, Nat.min_eq_left htN])
          rw [← hR] at hLi9
          clear hR
          have hCr := hide (show Calls Tryz.prog 31 #[.pointer (some ⟨b, 0, none⟩), .slice ka M2 kcap, .int .i64 torn] wo fun e w' => e = .returned (.int .i64 0) ∧ JW K B b 9000 db vb jb ⟨false, 0, c1, c1, []⟩ rs br w1 w' ∧ OwnF w' B (.slice fa N fc) F from by
            refine (hJ.out.crash hok.out torn (by rw [List.length_take]; omega) (hKp.out wo hJ.out.bel)).mono ?_
            rintro e w' ⟨g1, g2, _, g4⟩
            rw [hcr.out] at g2
            exact ⟨g1, g2, own_tchF hO.out hJ.out (.of_tch g4)⟩)
          go_upto_region 32 with (go_at_call 31; refine hCr.out.mono ?_; rintro e w5 ⟨rfl, g2, g3⟩; have hJ5 := hide g2; have hO5 := hide g3; clear g2 g3)
          clear hCr hJ hO hmin hMc hMq hqk hKp hcr
          have hOl := hide (open_lies hksH.out hJ5.out hLi9.out (hnx.out _ hJ5.out.bel).1 (hnx.out _ hJ5.out.bel).2.1)
          go_upto_region 33 with (go_at_call 26; refine hOl.out.mono ?_; rintro e w6 ⟨j2, S2, rfl, g1, _, g3, g4, _⟩; have hI6 := hide g1; have hJ6 := hide (show JW K B b 9000 db vb j2 S2 R false w1 w6 from g3); have hO6 := hide (own_tchF hO5.out hJ5.out (.of_tch g4)); clear g1 g3 g4)
          clear hOl hJ5 hO5
          have hRc := hide (hJ6.out.records hI6.out.fits)
          go_wp2_with (go_at_call 20; refine hRc.out.mono ?_; rintro e w7 ⟨uw, rfl, g3, g4, g5⟩; obtain ⟨ua, uc, euw⟩ := own_shape g3; rw [hRl.out] at euw; subst euw; have hR7 := hide (strs_own g3); have hJ7 := hide g4; have hO7 := hide (own_nextF hO6.out g5); clear g3 g4 g5)
          clear hRc hJ6 hO6
          obtain ⟨N3, hN3⟩ : ∃ N, N = w7.heap.size := ⟨_, rfl⟩
          have hN3H := hide hN3
          have hN3B := hide (show B ≤ N3 by rw [hN3]; exact hJ7.out.hB)
          clear hN3
          have hup3 := hide (fun W (hW : Below N3 w7 W) => (show Below B w1 W from hJ7.out.bel.trans (hW.mono hN3B.out)))
          go_loopw [28, 30] (fun u i wr => ∃ (r : Nat), i = .int .i64 r ∧ r ≤ t ∧ Hid (OwnF wr N3 u (F.take r) ∧ Below N3 w7 wr)) (fun _ i _ => t - (intOf i).toNat)
          case atStart => exact ⟨0, rfl, Nat.zero_le _, ⟨rfl, .inl ⟨rfl, rfl⟩⟩, by rw [hN3H.out]; exact Below.refl _ _⟩
          case round =>
            obtain ⟨r, rfl, hr, hQ3⟩ := hrel
            obtain ⟨wi, hwi⟩ : ∃ wi, wi = wr := ⟨_, rfl⟩
            subst hwi
            have hu := hide hQ3.out.1
            have hBi := hide hQ3.out.2
            have hBi' := hide (show Below w7.heap.size w7 wi by have h := hBi.out; rw [hN3H.out] at h; exact h)
            clear hQ3
            by_cases hrt : r < t
            · obtain ⟨x, hx⟩ : ∃ x, F[r]? = some x := ⟨_, List.getElem?_eq_getElem (by rw [← hNH.out]; omega)⟩
              have hxe : R[r]? = some (RW.encJ x) := by rw [hRH.out, List.getElem?_map, List.getElem?_take, if_pos hrt, hx]; rfl
              obtain ⟨g1, o1, uc', e', hcell⟩ := strR_cell (W' := wi) hR7.out hxe
              injection e' with e1 e2 e3
              subst e1 e3
              have hc := hcell wi hBi'.out
              have hxok := hFok.out x (List.mem_of_getElem? hx)
              have hxs := hide (RW.take_snocJ hx)
              have hDc := hide (decode_any (RW.encJ x) (by have := RW.encJ_size x hxok.2; omega) a2 wi (hnx.out wi (hup3.out wi hBi.out)).2.2.1)
              rw [RW.decJ x hxok.1] at hDc
              obtain ⟨E, hE⟩ : ∃ E, E = RW.encJ x := ⟨_, rfl⟩
              rw [← hE] at hDc hc
              have hi := fact_infoF x.1 x.2
              have h1 := fcells_oneF x.1 x.2
              obtain ⟨cs, hcs⟩ : ∃ cs, cs = RW.fcells x.1 x.2 := ⟨_, rfl⟩
              have hcz : cs.size = 18 := by rw [hcs]; rfl
              rw [show RW.fv x = .agg (RW.fcells x.1 x.2) from rfl, ← hcs] at hDc
              rw [← hcs] at hi h1
              have hcsH := hide hcs
              clear hcs hE hx hxe hcell hxok e2
              go_upto_region 41 with (first
                | (go_at_call 36; refine hDc.out.mono ?_; rintro e w8 ⟨rfl, hB8⟩; have hB8H := hide hB8; clear hB8)
                | (refine wpList_store_newF rfl 70 (.tmp 31) (.tmp 185) rfl cs rfl rfl 70 _ hi (by rw [hcz]; rfl) h1 ?_))
              obtain ⟨fb, hfb⟩ : ∃ b, b = w8.heap.size := ⟨_, rfl⟩
              have hA := hide (alloc_bel (Below.refl w8.heap.size w8) (Nat.le_refl _) (.cells cs 70))
              refine gen_w (fun W => W.heap[fb]? = some (.cells cs 70 (0, 0)) ∧ Below w8.heap.size w8 W) ⟨by rw [hfb]; exact alloc_at1 _ _, hA.out⟩ ?_
              rw [← hfb]
              have hfbH := hide hfb
              clear hfb hc hA hi h1
              rintro w9 ⟨hr1, hb1w⟩
              have hb1H := hide (show Below w8.heap.size w8 w9 by rw [hfbH.out] at hb1w; exact hb1w)
              have hld9 : (ldRow 70 (.pointer (some ⟨fb, 0, none⟩))).run Tryz.prog w9 = .ok (.agg cs) w9 := fact_ldF hr1 hcz
              clear hr1 hb1w
              have hu9 := own_nextF (own_nextF hu.out hB8H.out) hb1H.out
              have h9s : N3 ≤ w9.heap.size := by have h4 := hBi'.out.size; have h5 := hB8H.out.size; have h6 := hN3H.out; have h7 := hb1H.out.size; omega
              obtain ⟨v', W', hrun, hO10, hC10⟩ := app_oneF x hu9 h9s (by rw [List.length_take]; omega)
              rw [← hcsH.out] at hrun
              rw [← hxs.out] at hO10
              have hO10H := hide hO10
              have hB10 := hide (show Below N3 w7 W' from hBi.out.trans ((hB8H.out.mono (by have h4 := hBi'.out.size; have h6 := hN3H.out; omega)).trans ((hb1H.out.mono (by have h4 := hBi'.out.size; have h5 := hB8H.out.size; have h6 := hN3H.out; omega)).trans (hC10.belowJ (fun k e => (own_blk hu9 e).1) h9s))))
              clear hu9 hO10 hC10
              go_wp2_with (first
                | (refine wpList_bs_J rfl (.tmp 190) rfl x cs hcsH.out rfl ?_)
                | (at_builtin; refine wpList_app_run rfl (.tmp 189) (.tmp 191) rfl rfl rfl hrun ?_))
              go_roundw
              case rel => exact ⟨r + 1, by go_num, by omega, hO10H.out, hB10.out⟩
              case measure => simp [intOf]; omega
            · obtain rfl : t = r := by omega
              obtain ⟨ba, bc, eu⟩ := own_shape hu.out
              have hTl := hide (show (F.take t).length = t by rw [List.length_take, ← hNH.out, Nat.min_eq_left htN])
              rw [hTl.out] at eu
              subst eu
              have hFb := hide (show FactsV wi (.slice ba t bc) (F.take t) from hu.out.facts)
              have hOi := hide (own_nextF hO7.out hBi'.out)
              have hfcap := row_cap hOi.out.facts
              have hFs := hide (fun W (h : OwnF W B (.slice fa N fc) F) => (show FactsV W (.slice fa t fc) (F.take t) from RowV.first h.facts t (by rw [← hNH.out]; exact htN)))
              have hBw := hide (hup3.out wi hBi.out)
              obtain ⟨Rt, hRt⟩ : ∃ R, R = RW.rootB K ((RW.colE K [] (F.take t)).map (·.1)) := ⟨_, rfl⟩
              obtain ⟨mm, hmm⟩ : ∃ m, m = (RW.colE K [] (F.take t)).length := ⟨_, rfl⟩
              have hCol := hide (fun W v (hv : FactsV W v (F.take t)) (hB : Below B w1 W) => collected_any K ks hksH.out v (F.take t) (by rw [hTl.out]; omega) W hv (hnx.out W hB).1)
              rw [← hRt, ← hmm] at hCol
              clear hRt hmm hu hBi hBi' hJ7 hR7 hO7
              have hmm0 : (0 : Int) ≤ (mm : Int) := by omega
              go_upto_region 44 with fail
              go_cut [202] (fun s wx => s = .bool false ∧ wx = wi)
              case first =>
                rcases htH.out with e | e
                · obtain rfl : p0 = t := e.symm
                  clear e
                  go_wp2
                  all_goals go_meet
                  all_goals exact ⟨rfl, rfl⟩
                · obtain rfl : c0 = t := e.symm
                  clear e
                  by_cases h5 : c0 = p0
                  · obtain rfl : p0 = c0 := h5.symm
                    clear h5
                    go_wp2
                    all_goals go_meet
                    all_goals exact ⟨rfl, rfl⟩
                  · have he1 : ((c0 : Int) == (p0 : Int)) = false := by simp; omega
                    have he2 : ¬ (c0 : Int) = (p0 : Int) := by omega
                    go_wp2
                    all_goals go_meet
                    all_goals exact ⟨rfl, rfl⟩
              case rest =>
              obtain ⟨rfl, hwx⟩ := hcut
              have hwx' := hwx.symm
              subst hwx'
              have hb1 : (0 : Int) ≤ (t : Int) := by omega
              have hb2 : (t : Int) ≤ (fc : Int) := by omega
              have hb3 : t ≤ fc := by omega
              have tok1 : True := trivial
              go_wp2_with (first
                | (go_at_call 37; have _t := tok1; clear tok1 _t; refine (hCol.out _ _ hFb.out hBw.out).mono ?_; rintro e w8 ⟨rfl, hB8⟩; have hO8 := hide (own_nextF hOi.out hB8); have hBw8 := hide (hBw.out.trans (hB8.mono (by rw [hBH.out]; exact hBw.out.size))); clear hB8)
                | (go_at_call 37; refine (hCol.out _ _ (hFs.out _ hO8.out) hBw8.out).mono ?_; rintro e w9 ⟨rfl, hB9⟩; have hBw9 := hide (hBw8.out.trans (hB9.mono (by rw [hBH.out]; exact hBw8.out.size))); clear hB9))
              go_ret
              exact ⟨by simp, hB1H.out.trans (hBw9.out.mono hwB.out)⟩
    · have hjM : j < M := of_decide_eq_true hq1H.out.symm
      have hjn : j < n := by have := hMH.out; omega
      clear hq1H
      obtain ⟨x, hx⟩ : ∃ x, l[j]? = some x := ⟨_, List.getElem?_eq_getElem (by rw [← hnH.out]; exact hjn)⟩
      obtain ⟨g0, o0, lc', e', hcell⟩ := factJ_cell (by have h := (hnx.out w1 (Below.refl _ _)).2.2.2.1; rw [hnH.out] at h; exact h) hx
      cases e'
      have hld := hcell wo (by have h := hup.out wo hBo.out; rw [hBH.out] at h; exact h)
      have hsx := hlsH.out x (List.mem_of_getElem? hx)
      have hyes := hide (fun h => RW.accJ_yes hx h)
      have hno := hide (fun h => RW.accJ_no hx h)
      obtain ⟨f, s⟩ := x
      rw [show RW.fv (f, s) = .agg (RW.fcells f s) from rfl] at hld
      have hi := fact_infoF f s
      have h1 := fcells_oneF f s
      obtain ⟨cs, hcs⟩ : ∃ cs, cs = RW.fcells f s := ⟨_, rfl⟩
      have hcz : cs.size = 18 := by rw [hcs]; rfl
      rw [← hcs] at hld hi h1
      have hcsH := hide hcs
      obtain ⟨p, hp⟩ : ∃ p, p = min s.size 100 := ⟨_, rfl⟩
      have hcut := hide (show s.extract 0 p = RW.cutJ s by rw [hp]; rfl)
      have hmin : min ((s.size : Nat) : Int) 100 = (p : Int) := by omega
      have hb1 : (0 : Int) ≤ (p : Int) := by omega
      have hb2 : (p : Int) ≤ (s.size : Int) := by omega
      clear hcell hcs hx hp
      go_upto_region 11 with (refine wpList_store_newF rfl 70 (.tmp 18) (.tmp 66) rfl cs rfl rfl 70 _ hi (by rw [hcz]; rfl) h1 ?_)
      obtain ⟨fb, hfb⟩ : ∃ b, b = wo.heap.size := ⟨_, rfl⟩
      have hA := hide (alloc_bel (Below.refl wo.heap.size wo) (Nat.le_refl _) (.cells cs 70))
      refine gen_w (fun W => W.heap[fb]? = some (.cells cs 70 (0, 0)) ∧ Below fb wo W) ⟨by rw [hfb]; exact alloc_at1 _ _, by rw [hfb]; exact hA.out⟩ ?_
      rw [← hfb]
      have hfbH := hide hfb
      clear hfb hld hA
      rintro w4 ⟨hr1, hb1w⟩
      have hr1H := hide hr1
      have hb1H := hide hb1w
      have c17 : w4.cell? ⟨fb, 17, none⟩ = some (.string s) := by rw [cellAt hr1, hcsH.out]; rfl
      have f17 : w4.frozen? ⟨fb, 17, none⟩ = false := by simp [World.frozen?, hr1]
      clear hr1 hb1w
      go_upto_region 12 with fail
      rw [hcut.out]
      obtain ⟨ds, hds⟩ : ∃ ds, ds = RW.fcells f (RW.cutJ s) := ⟨_, rfl⟩
      have hdsH := hide hds
      have hfB : B3 ≤ fb := by rw [hfbH.out, hB3H.out]; exact hBo.out.size
      refine gen_w (fun W => W.heap[fb]? = some (.cells ds 70 (0, 0)) ∧ Below fb wo W) ⟨by rw [setCell_sameJ _ _ _ _ _ _ hr1H.out, hcsH.out, hds]; rfl, hb1H.out.setCell (Nat.le_refl _) _⟩ ?_
      clear c17 f17 hr1H hb1H hds hmin hb1 hb2
      rintro w5 ⟨hr2, hb2w⟩
      have hr2H := hide hr2
      have hb2H := hide hb2w
      have hld2 : (ldRow 70 (.pointer (some ⟨fb, 0, none⟩))).run Tryz.prog w5 = .ok (.agg ds) w5 := fact_ldF hr2 (by rw [hdsH.out]; rfl)
      have hVd := hide (valid_any f (RW.cutJ s) w5)
      rw [← hdsH.out] at hVd
      obtain ⟨vb', hvb⟩ : ∃ v, v = RW.validB f (RW.cutJ s).size := ⟨_, rfl⟩
      rw [← hvb] at hVd
      have hvbH := hide hvb
      clear hvb hr2 hb2w
      have hf5 : fb < w5.heap.size := by
        have h := hr2H.out
        rcases Nat.lt_or_ge fb w5.heap.size with h1 | h1
        · exact h1
        · rw [Array.getElem?_eq_none h1] at h; cases h
      cases vb'
      · have hno2 := hide (hno.out hvbH.out.symm)
        go_wp2_with (go_at_call 34; refine hVd.out.mono ?_; rintro e w6 ⟨rfl, hB6⟩; have hB6H := hide hB6; clear hB6)
        go_roundw
        case rel => exact ⟨j + 1, by go_num, by omega, by
          rw [hno2.out]
          exact own_nextF (own_keep hO.out fun g hg => hb2H.out.block g (by rw [hfbH.out]; exact (own_blk hO.out hg).2.1)) hB6H.out, hBo.out.trans ((hb2H.out.mono hfB).trans (hB6H.out.mono (by omega)))⟩
        case measure => simp [intOf]; omega
      · have hyes2 := hide (hyes.out hvbH.out.symm)
        go_upto_region 13 with (go_at_call 34; refine hVd.out.mono ?_; rintro e w6 ⟨rfl, hB6⟩; have hB6H := hide hB6; clear hB6)
        have hr6 := hide ((hB6H.out.block fb hf5).trans hr2H.out)
        have hld6 : (ldRow 70 (.pointer (some ⟨fb, 0, none⟩))).run Tryz.prog w6 = .ok (.agg ds) w6 := fact_ldF hr6.out (by rw [hdsH.out]; rfl)
        have hO6 : OwnF w6 B3 _ _ := own_nextF (own_keep hO.out fun g hg => hb2H.out.block g (by rw [hfbH.out]; exact (own_blk hO.out hg).2.1)) hB6H.out
        have h6s : B3 ≤ w6.heap.size := by have := hB6H.out.size; omega
        obtain ⟨v', W', hrun, hO7, hC7⟩ := app_oneF (f, RW.cutJ s) hO6 h6s (by have := RW.accJ_len l j; omega)
        rw [show RW.fcells (f, RW.cutJ s).1 (f, RW.cutJ s).2 = ds from hdsH.out.symm] at hrun
        rw [show (f, RW.cutJ s) = RW.cutXJ (f, s) from rfl, ← hyes2.out] at hO7
        have hO7H := hide hO7
        have hB7H := hide (show Below B3 w3 W' from hBo.out.trans ((hb2H.out.mono hfB).trans ((hB6H.out.mono (by omega)).trans (hC7.belowJ (fun k e => (own_blk hO6 e).1) h6s))))
        clear hO6 hO7 hC7 hld2
        go_wp2_with (first
          | (refine wpList_bs_J rfl (.tmp 78) rfl (f, RW.cutJ s) ds hdsH.out rfl ?_)
          | (at_builtin; refine wpList_app_run rfl (.tmp 77) (.tmp 79) rfl rfl rfl hrun ?_))
        go_roundw
        case rel => exact ⟨j + 1, by go_num, by omega, hO7H.out, hB7H.out⟩
        case measure => simp [intOf]; omega
end Go.Proofs.YtllbphanfahkkaaGreatDoor

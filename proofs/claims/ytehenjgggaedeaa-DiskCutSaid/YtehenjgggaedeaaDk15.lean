/-
  Package royaltylaw22: DiskCut: it returns true; only new memory is written.
-/
import Derived.Test.YtehenjgggaedeaaDk14
namespace Go.Proofs.Ytehenjgggaedeaa
open Go.RowKit
attribute [local go_sem ↓] ldRow_wp
theorem read_off (B b n db vb : Nat) (pv : Value) (S : RW.Dk) (o k : Int) (hoff : S.off = true) (w : World) (h : DiskAt w B b n db vb pv S) :
    Calls Try.prog 14 #[.pointer (some ⟨b, 0, none⟩), .int .i64 o, .int .i64 k] w fun e w' => e = .returned (.tuple #[.string ⟨#[]⟩, .int .i64 221]) ∧ w = w' := by
  have h1 := read_any B b n db vb pv S o k w h
  rw [RW.Dk.read, hoff, if_pos rfl] at h1
  exact h1
theorem sync_off (B b n db vb : Nat) (pv : Value) (S : RW.Dk) (hoff : S.off = true) (w : World) (h : DiskAt w B b n db vb pv S) :
    Calls Try.prog 23 #[.pointer (some ⟨b, 0, none⟩)] w fun e w' => e = .returned (.int .i64 221) ∧ ∃ pv', DiskAt w' B b n db vb pv' S ∧ Tch b db vb w w' ∧ Below B w w' := by
  have h1 := sync_any B b n db vb pv S w h
  rw [show S.sync = (221, S) by rw [RW.Dk.sync, hoff, if_pos rfl]] at h1
  exact h1
theorem cut_off (B b n db vb : Nat) (pv : Value) (S : RW.Dk) (k : Int) (hk : k ≤ 9223372036854775807) (hoff : S.off = true) (w : World) (h : DiskAt w B b n db vb pv S) :
    Calls Try.prog 24 #[.pointer (some ⟨b, 0, none⟩), .int .i64 k] w fun e w' => e = .returned (.int .i64 221) ∧ DiskAt w' B b n db vb pv S ∧ Tch b db vb w w' ∧ Below B w w' := by
  have h1 := cut_any B b n db vb pv S k hk w h
  rw [show S.cut k = (221, S) by rw [RW.Dk.cut, hoff, if_pos rfl]] at h1
  exact h1
theorem cut_ok (B b n db vb : Nat) (pv : Value) (S : RW.Dk) (k : Int) (hoff : S.off = false) (hk : 0 ≤ k) (hk2 : k ≤ 9223372036854775807) (w : World) (h : DiskAt w B b n db vb pv S) :
    Calls Try.prog 24 #[.pointer (some ⟨b, 0, none⟩), .int .i64 k] w fun e w' => e = .returned (.int .i64 0) ∧ DiskAt w' B b n db vb pv ⟨decide (k = 0), k.toNat, S.dur, S.vis, S.pend⟩ ∧ Tch b db vb w w' ∧ Below B w w' := by
  have h1 := cut_any B b n db vb pv S k hk2 w h
  rw [show S.cut k = (0, ⟨decide (k = 0), k.toNat, S.dur, S.vis, S.pend⟩) by rw [RW.Dk.cut, hoff, if_neg Bool.false_ne_true, if_neg (by omega)]] at h1
  exact h1
set_option maxRecDepth 100000 in
set_option maxHeartbeats 2000000 in
theorem diskcut_any (z kk : Int) (hk1 : -9223372036854775808 ≤ kk) (hk2 : kk ≤ 9223372036854775807) (hz : -9223372036854775808 ≤ z) (hz2 : z ≤ 9223372036854775807) (v : Value) (l : List RW.Wp) (hl : ∀ x ∈ l, (-9223372036854775808 ≤ x.1 ∧ x.1 ≤ 9223372036854775807) ∧ x.2.1.size ≤ 9223372036854775807) (w : World) (hv : RowV 3 RW.wpl w v l) :
    Calls Try.prog 10 #[.int .i64 z, .int .i64 kk, v] w fun e w' => e = .returned (.bool true) ∧ Below w.heap.size w w' := by
  have hS := hide (sane_any w)
  have hP := hide (fun W => pick_any z 100 hz hz2 (by decide) (by decide) W)
  have hpb := RW.pickI_bd z 100 (by decide)
  obtain ⟨p, hp⟩ : ∃ p, p = RW.pickI z 100 := ⟨_, rfl⟩
  rw [← hp] at hP hpb
  have hQ0 := hide (fun W => pick_any kk 20 hk1 hk2 (by decide) (by decide) W)
  have hqb := RW.pickI_bd kk 20 (by decide)
  obtain ⟨K, hK⟩ : ∃ K : Nat, (K : Int) = RW.pickI kk 20 := ⟨(RW.pickI kk 20).toNat, by omega⟩
  rw [← hK] at hQ0 hqb
  have hK20 : K < 20 := by omega
  clear hK hqb hk1 hk2
  obtain ⟨n, hn⟩ : ∃ n : Nat, (n : Int) = 1 + p := ⟨(1 + p).toNat, by omega⟩
  have hn1 : 1 ≤ n := by omega
  have hn2 : n ≤ 100 := by omega
  have hn3 : n ≤ 4194304 := by omega
  have hN := hide (fun W => new_any n hn1 hn3 W)
  have hnH := hide hn
  have hlH := hide hl
  obtain ⟨av, cv, rfl, hcv, hav⟩ := hv
  obtain ⟨m, hm⟩ : ∃ m, m = l.length := ⟨_, rfl⟩
  have hmH := hide hm
  have havH := hide hav
  rw [← hm] at hcv ⊢
  obtain ⟨B, hB⟩ : ∃ B, B = w.heap.size := ⟨_, rfl⟩
  have hBH := hide hB
  rw [← hB] at hS ⊢
  obtain ⟨hp0, hp1⟩ := hpb
  clear hz hz2 hp hn hl hm hav hB hcv
  go_enter Try.func10, Try.ntmps10
  go_upto_region 3 with (first
    | (go_at_call 12; refine hS.out.mono ?_; rintro e w1 ⟨rfl, hB1⟩; have hB1H := hide hB1; clear hB1)
    | (go_at_call 15; refine (hP.out _).mono ?_; rintro e w' ⟨rfl, rfl⟩))
  rw [← hnH.out]
  clear hp0 hp1 hP
  go_upto_region 4 with (go_at_call 15; refine (hQ0.out _).mono ?_; rintro e w' ⟨rfl, rfl⟩)
  go_upto_region 5 with (go_at_call 13; refine (hN.out _).mono ?_; rintro e w2 ⟨b, rfl, ⟨db, vb, hd2⟩, hB2⟩; have hd2H := hide hd2; have hB2H := hide (hB1H.out.trans (hB2.mono (by rw [hBH.out]; exact hBH.out ▸ hB1H.out.size))); clear hd2 hB2)
  obtain ⟨B0, hB0⟩ : ∃ x, x = w1.heap.size := ⟨_, rfl⟩
  rw [← hB0] at hd2H
  have hSc1 := hide (cut_ok B0 b n db vb (.slice none 0 0) (RW.dk0 n) ((K : Int) + 5) rfl (by omega) (by omega) w2 hd2H.out)
  have hSc2 := hide (fun W (h : DiskAt W B0 b n db vb (.slice none 0 0) ⟨decide ((K : Int) + 5 = 0), ((K : Int) + 5).toNat, (RW.dk0 n).dur, (RW.dk0 n).vis, (RW.dk0 n).pend⟩) => cut_ok B0 b n db vb (.slice none 0 0) _ (K : Int) (show decide ((K : Int) + 5 = 0) = false from decide_eq_false (by omega)) (by omega) (by omega) W h)
  have hB0l := hide (show B ≤ B0 by rw [hB0, hBH.out]; exact hBH.out ▸ hB1H.out.size)
  have tok1 : True := trivial
  go_upto_region 7 with (first
    | (go_at_call 24; have _t := tok1; refine hSc1.out.mono ?_; rintro e w3 ⟨rfl, hd3, ht3, hB3⟩; have hd3H := hide hd3; have hB3H := hide (hB2H.out.trans (hB3.mono hB0l.out)); clear hd3 ht3 hB3 tok1)
    | (go_at_call 24; refine (hSc2.out _ hd3H.out).mono ?_; rintro e w4 ⟨rfl, hd4, ht4, hB4⟩; have hd4H := hide hd4; have hB4H := hide (hB3H.out.trans (hB4.mono hB0l.out)); clear hd4 ht4 hB4))
  have hmk := run_make_by n hn3 w4
  go_upto_region 8 with fail
  obtain ⟨g, hg⟩ : ∃ x, x = w4.heap.size := ⟨_, rfl⟩
  have hA := hide ((Below.refl w4.heap.size w4).alloc (Nat.le_refl _) (.cells (RW.byl (List.replicate n 0)).toArray 5))
  have hgdb := hide (show g ≠ db ∧ g ≠ vb from ⟨by rw [hg]; exact Ne.symm (Nat.ne_of_lt hd4H.out.lt.2.1), by rw [hg]; exact Ne.symm (Nat.ne_of_lt hd4H.out.lt.2.2)⟩)
  have hgB := hide (show B ≤ g by rw [hg, hBH.out]; exact hBH.out ▸ hB4H.out.size)
  have hS0 : (⟨decide ((K : Int) = 0), ((K : Int)).toNat, (RW.dk0 n).dur, (RW.dk0 n).vis, (RW.dk0 n).pend⟩ : RW.Dk) = ⟨decide (K ≤ 0), K - 0, List.replicate n 0, List.replicate n 0, []⟩ := by
    rw [Int.toNat_natCast, Nat.sub_zero, show decide ((K : Int) = 0) = decide (K ≤ 0) by
      by_cases h : K = 0
      · subst h; rfl
      · rw [decide_eq_false (by omega), decide_eq_false (by omega)]]
    rfl
  refine gen_w (fun W => W.heap[g]? = some (.cells (RW.byl (List.replicate n 0)).toArray 5 (0, 0)) ∧ DiskAt W B0 b n db vb (.slice none 0 0) ⟨decide (K ≤ 0), K - 0, List.replicate n 0, List.replicate n 0, []⟩ ∧ Below B w W) ⟨newAt hg, hS0 ▸ hd4H.out.next hA.out, hB4H.out.trans (hA.out.mono (by rw [hBH.out]; exact hBH.out ▸ hB4H.out.size))⟩ ?_
  rw [← hg]
  clear hg hA hmk hd4H hB4H hd3H hB3H hd2H hB2H hB1H hB0 hN hS hS0 hSc1 hSc2 hQ0
  rintro w5 ⟨g1, g2, g3⟩
  have hg3 := hide g1
  have hd3 := hide g2
  have hB3 := hide g3
  clear g1 g2 g3
  go_wp2
  go_loopw [11, 12] (fun z i wr => ∃ j : Nat, i = .int .i64 j ∧ j ≤ 40 ∧ Hid (∃ S pv, DiskAt wr B0 b n db vb pv S ∧ (S.off = decide (K ≤ j) ∧ S.left = K - j ∧ S.pend.length = min j K) ∧ (S.ok n ∧ RW.replay S.pend S.dur = S.vis) ∧ wr.heap[g]? = some (.cells (RW.byl S.vis).toArray 5 (0, 0)) ∧ IntsO wr B z (RW.rangeL (min j K)) ∧ Below B w wr)) (fun _ i _ => 40 - (intOf i).toNat)
  case atStart => exact ⟨0, rfl, by decide, _, _, hd3.out, ⟨rfl, rfl, by simp⟩, ⟨(fun y hy => by cases hy), rfl⟩, hg3.out, by rw [Nat.zero_min]; exact World.ownsRow_nil _ _ _ _, hB3.out⟩
  case round =>
    obtain ⟨j, rfl, hj, hQ⟩ := hrel
    clear hg3 hd3 hB3
    obtain ⟨c, hc⟩ : ∃ c : Bool, c = decide (j < m ∧ j < 40) := ⟨_, rfl⟩
    have hcH := hide hc
    clear hc
    obtain ⟨wo, hwo⟩ : ∃ wo, wo = wr := ⟨_, rfl⟩
    subst hwo
    obtain ⟨S, pv, hd, ⟨hoff, hleft, hpl⟩, ⟨hok, hrp⟩, hgr, hO, hBw⟩ := hQ.out
    obtain ⟨az, cz, rfl⟩ := IntsO.formN hO (RW.rangeL_len (min j K))
    have hdH := hide hd
    have hoffH := hide hoff
    have hleftH := hide hleft
    have hplH := hide hpl
    have hokH := hide hok
    have hrpH := hide hrp
    have hgrH := hide hgr
    have hOH := hide hO
    have hBwH := hide hBw
    obtain ⟨nq, hnq⟩ : ∃ q, q = min j K := ⟨_, rfl⟩
    rw [← hnq] at hOH hplH ⊢
    have hnqH := hide hnq
    clear hQ hd hoff hleft hpl hok hrp hgr hO hBw hnq
    go_upto_region 10 with fail
    go_cut [55] (fun s wx => s = .bool c ∧ wx = wo)
    case first =>
      by_cases h1 : j < m
      · by_cases h2 : j < 40
        · have h2i : (j : Int) < 40 := by omega
          go_wp2
          all_goals go_meet
          all_goals exact ⟨by rw [hcH.out, decide_eq_true (show j < m ∧ j < 40 from ⟨h1, h2⟩)] <;> rfl, rfl⟩
        · obtain rfl : j = 40 := by omega
          go_wp2
          all_goals go_meet
          all_goals exact ⟨by rw [hcH.out, decide_eq_false (show ¬ (40 < m ∧ 40 < 40) by omega)] <;> rfl, rfl⟩
      · go_wp2
        all_goals go_meet
        all_goals exact ⟨by rw [hcH.out, decide_eq_false (show ¬ (j < m ∧ j < 40) by omega)] <;> rfl, rfl⟩
    case rest =>
    obtain ⟨rfl, hwx⟩ := hcut
    have hwx' := hwx.symm
    subst hwx'
    cases c
    · by_cases hjK : j < K
      · have hnj : nq = j := by have := hnqH.out; omega
        subst hnj
        have hofff := hide (show S.off = false by rw [hoffH.out, decide_eq_false (by omega)])
        have hnK : (nq : Int) < (K : Int) := by omega
        have hSy := hide (sync_ok B0 b n db vb pv S hofff.out wo hdH.out)
        clear hcH
        go_wp2_with (go_at_call 23; refine hSy.out.mono ?_; rintro e w8 ⟨rfl, pv8, hd8, ht8, hB8⟩; have hBw8 := hide (hBwH.out.trans (hB8.mono hB0l.out)); clear hd8 ht8 hB8)
        go_ret
        exact ⟨rfl, hBw8.out⟩
      · have hnK : nq = K := by have := hnqH.out; omega
        subst hnK
        have hofft := hide (show S.off = true by rw [hoffH.out, decide_eq_true (by omega)])
        have hlft := hide (show S.left = 0 by rw [hleftH.out]; omega)
        have hRd := hide (read_off B0 b n db vb pv S 0 0 hofft.out wo hdH.out)
        have hSy := hide (sync_off B0 b n db vb pv S hofft.out wo hdH.out)
        have hPd := hide (fun pv W (h : DiskAt W B0 b n db vb pv S) => pending_any W h)
        rw [hplH.out] at hPd
        have hSz := hide (fun pv W (h : DiskAt W B0 b n db vb pv S) => size_any W h)
        have hcrE := hide (show S.crash (RW.rangeL nq) (-1) = ⟨false, 0, S.vis, S.vis, []⟩ by rw [← hplH.out, RW.crash_all S (-1) (by decide), hrpH.out])
        clear hcH
        have hg0 := hgrH
        go_upto_region 22 with (go_at_call 14; refine hRd.out.mono ?_; rintro e w' ⟨rfl, rfl⟩)
        have hCt := hide (fun pv W (h : DiskAt W B0 b n db vb pv S) => cut_off B0 b n db vb pv S 3 (by decide) hofft.out W h)
        go_upto_region 24 with (first
          | (go_at_call 23; refine hSy.out.mono ?_; rintro e w8 ⟨rfl, pv8, hd8, ht8, hB8⟩; have hd8H := hide hd8; have hBw8 := hide (hBwH.out.trans (hB8.mono hB0l.out)); have hg8 := hide (ht8.buf hdH.out hgrH.out hgdb.out.1 hgdb.out.2); have hO8 := hide (own_tch hOH.out hdH.out ht8 (by decide)); clear hd8 ht8 hB8)
          | (go_at_call 24; refine (hCt.out _ _ hd8H.out).mono ?_; rintro e w9 ⟨rfl, hd9, ht9, hB9⟩; have hd9H := hide hd9; have hBw9 := hide (hBw8.out.trans (hB9.mono hB0l.out)); have hg9 := hide (ht9.buf hd8H.out hg8.out hgdb.out.1 hgdb.out.2); have hO9 := hide (own_tch hO8.out hd8H.out ht9 (by decide)); clear hd9 ht9 hB9)
          | (go_at_call 17; refine (hPd.out _ _ hd9H.out).mono ?_; rintro e w' ⟨rfl, rfl⟩)
          | (go_at_call 16; refine (hSz.out _ _ hd9H.out).mono ?_; rintro e w' ⟨rfl, rfl⟩))
        have hCr := hide (crash_any B0 b n db vb pv8 S _ (RW.rangeL nq) (-1) w9 hd9H.out hokH.out (by rw [RW.rangeL_len]; omega) (IntsB.ofOwn (B := B) (v := .slice az nq cz) hO9.out))
        rw [hcrE.out] at hCr
        go_upto_region 25 with (go_at_call 25; refine hCr.out.mono ?_; rintro e w10 ⟨rfl, pv10, hd10, ht10, hB10⟩; have hd10H := hide hd10; have hBw10 := hide (hBw9.out.trans (hB10.mono hB0l.out)); have hg10 := hide (ht10.buf hd9H.out hg9.out hgdb.out.1 hgdb.out.2); clear hd10 ht10 hB10)
        have hRd2 := hide (read_ok B0 b n db vb pv10 ⟨false, 0, S.vis, S.vis, []⟩ rfl w10 hd10H.out)
        go_upto_region 26 with (go_at_call 14; refine hRd2.out.mono ?_; rintro e w' ⟨rfl, rfl⟩)
        have hwx : (⟨false, 0, S.vis, S.vis, []⟩ : RW.Dk).write n 0 ⟨#[120]⟩ = (0, ⟨false, 0, S.vis, RW.lay S.vis 0 [120], [(0, ⟨#[120]⟩)]⟩) := by
          rw [RW.Dk.write, if_neg (show ¬ (⟨false, 0, S.vis, S.vis, []⟩ : RW.Dk).off = true from Bool.false_ne_true), if_pos ((RW.insB_iff n 0 _).2 ⟨by decide, by decide, by omega, by show (1 : Int) ≤ (n : Int) - 0; omega⟩)]
          rfl
        have hWx := hide (write_any B0 b n db vb pv10 ⟨false, 0, S.vis, S.vis, []⟩ 0 ⟨#[120]⟩ w10 hd10H.out (show (0 : Nat) < 1000000 by decide) (by decide))
        rw [hwx] at hWx
        have hcv := run_conv_all w10 g n S.vis hd10H.out.lv hg10.out
        clear hwx
        go_wp2_with (first
          | (go_at_call 21; refine hWx.out.mono ?_; rintro e w11 ⟨rfl, pv11, hd11, ht11, hB11⟩; have hd11H := hide hd11; have hBw11 := hide (hBw10.out.trans (hB11.mono hB0l.out)); clear hd11 ht11 hB11)
          | (go_at_call 23; refine (sync_ok B0 b n db vb pv11 _ rfl w11 hd11H.out).mono ?_; rintro e w12 ⟨rfl, pv12, hd12, ht12, hB12⟩; have hBw12 := hide (hBw11.out.trans (hB12.mono hB0l.out)); clear hd12 ht12 hB12))
        go_ret
        exact ⟨rfl, hBw12.out⟩
    · obtain ⟨hlt, hj40⟩ : j < m ∧ j < 40 := of_decide_eq_true hcH.out.symm
      obtain ⟨x, hx⟩ : ∃ x, l[j]? = some x := ⟨_, List.getElem?_eq_getElem (by rw [← hmH.out]; exact hlt)⟩
      have hxb := hlH.out x (List.mem_of_getElem? hx)
      obtain ⟨bq, oq, rfl, hbq, hcq⟩ := havH.out.resolve_left (by rintro rfl; simp at hx)
      have hrg : wo.rangeAt bq (oq + j * 3) (RW.wpl x) := fun i u hu => (World.cell?_of_block (a := ⟨bq, oq + j * 3 + i, none⟩) (hBwH.out.block _ (by rw [hBH.out]; exact hbq))).trans (hcq j x hx i u hu)
      have hps := wp_size x
      have hFi := hide (fun W => fits_any n (by omega) x hxb.1.1 hxb.1.2 hxb.2 W)
      have hfs := fit_size n x
      have hPu := hide (fun W (h : W.heap[g]? = some (.cells (RW.byl S.vis).toArray 5 (0, 0))) => put_any g n S.vis (RW.fitO n x) (RW.fitS n x) hn3 hdH.out.lv (RW.fit_le n x) W h)
      have hfle := hide (RW.fit_le n x)
      have hfO := hide (show (RW.fitL n x).toArray[0]? = some (.int .i64 (RW.fitO n x : Int)) from rfl)
      have hf1 := hide (show (RW.fitL n x).toArray[1]? = some (.string (RW.fitS n x)) from rfl)
      have hszS := hide (show (RW.fitS n x).size ≤ 9223372036854775807 by have := hfle.out; omega)
      have hso0 := hide (show B ≤ wo.heap.size by rw [hBH.out]; exact hBH.out ▸ hBwH.out.size)
      clear hbq hcq hx hxb hcH
      go_upto_region 13 with (first
        | (refine wpList_load_mid rfl 53 (.tmp 60) rfl bq (oq + j * 3) rfl (RW.wpl x) _ hrg Try.underlying53 rfl hps ?_)
        | (go_at_call 26; refine (hFi.out _).mono ?_; rintro e w4 ⟨rfl, hB4⟩; have hB4H := hide hB4; clear hB4)
        | (refine wpListStoreNew rfl 53 (.tmp 13) (.tmp 63) rfl (RW.fitL n x).toArray rfl rfl 53 _ hfs rfl (fit_one n x) ?_))
      obtain ⟨wb, hwb⟩ : ∃ k, k = w4.heap.size := ⟨_, rfl⟩
      have hA4 := hide (hB4H.out.alloc hB4H.out.size (.cells (RW.fitL n x).toArray 53))
      refine gen_w (fun W => W.heap[wb]? = some (.cells (RW.fitL n x).toArray 53 (0, 0)) ∧ Below wo.heap.size wo W) ⟨newAt hwb, hA4.out⟩ ?_
      rw [← hwb]
      clear hwb hA4 hB4H hrg hFi
      rintro w5 ⟨k1, k2⟩
      have e0 : w5.cell? ⟨wb, 0, none⟩ = some (.int .i64 (RW.fitO n x : Int)) := (cellAt k1 0).trans hfO.out
      have e1 : w5.cell? ⟨wb, 1, none⟩ = some (.string (RW.fitS n x)) := (cellAt k1 1).trans hf1.out
      have hw5 := hide k1
      have hd5 := hide (hdH.out.next k2)
      have hg5 := hide ((k2.block g (Array.getElem?_eq_some_iff.1 hgrH.out).1).trans hgrH.out)
      have hO5 := hide (own_next hOH.out k2)
      have hBw5 := hide (hBwH.out.trans (k2.mono hso0.out))
      clear k1 k2
      have hWr := hide (write_any B0 b n db vb pv S (RW.fitO n x : Int) (RW.fitS n x) w5 hd5.out (by have := hplH.out; have := hnqH.out; omega) hszS.out)
      clear hdH hgrH hOH hBwH
      by_cases hjK : j < K
      · have hnj : nq = j := by have := hnqH.out; omega
        subst hnj
        have hofff := hide (show S.off = false by rw [hoffH.out, decide_eq_false (by omega)])
        have hnK : (nq : Int) < (K : Int) := by omega
        obtain ⟨S1, hS1⟩ : ∃ S1 : RW.Dk, S1 = ⟨decide (K ≤ nq + 1), K - (nq + 1), S.dur, RW.lay S.vis (RW.fitO n x) (RW.fitS n x).data.toList, S.pend ++ [(RW.fitO n x, RW.fitS n x)]⟩ := ⟨_, rfl⟩
        have hwrt : S.write n (RW.fitO n x : Int) (RW.fitS n x) = (0, S1) := by
          rw [RW.Dk.write, hofff.out, if_neg Bool.false_ne_true, RW.fit_ins, if_pos rfl, hleftH.out, Int.toNat_natCast, hS1]
          have hu : RW.used false (K - nq) = (decide (K ≤ nq + 1), K - (nq + 1)) := by
            rw [RW.used, if_neg (by omega)]
            congr 1
            by_cases h : K ≤ nq + 1
            · rw [decide_eq_true h, decide_eq_true (by omega)]
            · rw [decide_eq_false h, decide_eq_false (by omega)]
          rw [hu]
        rw [hwrt] at hWr
        have hS1H := hide hS1
        have hvS1 := hide (show RW.lay S.vis (RW.fitO n x) (RW.fitS n x).data.toList = S1.vis by rw [hS1])
        rw [hvS1.out] at hPu
        clear hwrt hS1
        go_upto_region 14 with (go_at_call 21; refine hWr.out.mono ?_; rintro e w7 ⟨rfl, pv7, hd7, ht7, hB7⟩; have hd7H := hide hd7; have hg7 := hide (ht7.buf hd5.out hg5.out hgdb.out.1 hgdb.out.2); have hw7 := hide (ht7.par hd5.out hw5.out); have hO7 := hide (own_tch hO5.out hd5.out ht7 (by decide)); have hBw7 := hide (hBw5.out.trans (hB7.mono hB0l.out)); clear hd7 ht7 hB7)
        have e0' : w7.cell? ⟨wb, 0, none⟩ = some (.int .i64 (RW.fitO n x : Int)) := (cellAt hw7.out 0).trans hfO.out
        have e1' : w7.cell? ⟨wb, 1, none⟩ = some (.string (RW.fitS n x)) := (cellAt hw7.out 1).trans hf1.out
        clear e0 e1
        go_upto_region 16 with (go_at_call 27; refine (hPu.out _ hg7.out).mono ?_; rintro e w8 ⟨⟨u8, rfl⟩, hg8, hc8⟩; have hg8H := hide hg8; have hc8H := hide hc8; clear hg8 hc8)
        have hd8 := hide (hd7H.out.chg hg7.out hgdb.out.1 hgdb.out.2 hc8H.out)
        have hBw8 := hide (hBw7.out.trans (hc8H.out.below hgB.out (by rw [hBH.out]; exact hBH.out ▸ hBw7.out.size)))
        have hO8 := hide (show IntsO w8 B (.slice az nq cz) (RW.rangeL nq) from own_keep hO7.out fun k hk => hc8H.out.block k (hO7.out.lt k hk).2 (by
          rcases hO7.out.2 with ⟨e, _⟩ | ⟨g', cap', cur', e, _, hh, _⟩
          · rw [e] at hk; cases hk
          · rw [e] at hk; cases hk; exact blocks_ne hh hg7.out (by decide)))
        have hlit : RowV 1 (fun z => [Value.int .i64 z]) (w8.alloc (.cells (rowCells (fun z => [Value.int .i64 z]) [(nq : Int)]).toArray 3)) (.slice (some ⟨w8.heap.size, 0, none⟩) 1 1) [(nq : Int)] := rows_lit (k := 1) (enc := fun z : Int => [Value.int .i64 z]) w8 3 (fun _ => rfl) [(nq : Int)]
        have hown : w8.ownsRow B 3 1 (.slice az nq cz) (RW.rangeL nq).length (rowCells (fun z => [Value.int .i64 z]) (RW.rangeL nq)) := by rw [intCells]; exact hO8.out
        have hsz8 := hide (show B ≤ w8.heap.size by rw [hBH.out]; exact hBH.out ▸ hBw8.out.size)
        obtain ⟨v9, w9, hrun, hO9, hB9, hgr9⟩ := run_app_rows (P := Try.prog) 37 Try.underlying37 int_info (by rfl) (by decide) (fun _ => rfl) (by intro x u hu; simp at hu; rw [hu]; rfl) (hown.alloc _) (by have := hsz8.out; simp; omega) hlit (by rw [RW.rangeL_len]; unfold maxLen; simp; omega) (by rw [RW.rangeL_len]; simp; omega)
        rw [← RW.rangeL_succ, intCells] at hO9
        obtain ⟨a9, c9, hv9⟩ := IntsO.formN hO9 (RW.rangeL_len (nq + 1))
        subst hv9
        have hnot : ∀ {k : Nat} {c : Array Value} {t : TypeId} {f : Nat × Nat}, w8.heap[k]? = some (.cells c t f) → t ≠ 3 → w9.heap[k]? = w8.heap[k]? := fun {k c t f} hk ht => (hgr9.block k (by have := (Array.getElem?_eq_some_iff.1 hk).1; simp; omega) (fun e => by
          rcases hO8.out.2 with ⟨e', _⟩ | ⟨g', cap', cur', e', _, hh, _⟩
          · rw [e'] at e; cases e
          · rw [e'] at e; cases e; exact blocks_ne hk hh ht rfl)).trans (Below.heap_alloc _ _ _ (Array.getElem?_eq_some_iff.1 hk).1)
        have hd9 := hide (hd8.out.keep (W' := w9) fun k _ hq => by
          rcases hq with e | e | e | ⟨cur, fr, hh⟩
          · rw [e]; exact hnot hd8.out.row (by decide)
          · rw [e]; exact hnot hd8.out.dur (by decide)
          · rw [e]; exact hnot hd8.out.vis (by decide)
          · exact hnot hh (by decide))
        have hg9 := hide ((hnot hg8H.out (by decide)).trans hg8H.out)
        have hO9H := hide hO9
        have hBw9 := hide (hBw8.out.trans (((Below.refl B w8).alloc hsz8.out (.cells (rowCells (fun z => [Value.int .i64 z]) [(nq : Int)]).toArray 3)).trans hB9))
        clear hlit hown hO9 hB9 hgr9 hnot e0' e1'
        go_wp2_with (at_builtin; refine wpList_app_run rfl (.tmp 79) (.tmp 81) rfl rfl rfl hrun ?_)
        go_roundw
        case rel => exact ⟨nq + 1, by go_num, by omega, S1, pv7, hd9.out, ⟨by rw [hS1H.out], by rw [hS1H.out], by rw [hS1H.out]; show (S.pend ++ [_]).length = _; rw [List.length_append, hplH.out]; simp; omega⟩, ⟨by rw [hS1H.out]; exact RW.wrote_ok hokH.out, by rw [hS1H.out]; show RW.replay (S.pend ++ [(RW.fitO n x, RW.fitS n x)]) S.dur = RW.lay S.vis (RW.fitO n x) (RW.fitS n x).data.toList; rw [RW.replay_snoc, hrpH.out]⟩, hg9.out, by rw [show min (nq + 1) K = nq + 1 by omega]; exact hO9H.out, hBw9.out⟩
        case measure => simp [intOf]; omega
      · have hnK : nq = K := by have := hnqH.out; omega
        subst hnK
        have hofft := hide (show S.off = true by rw [hoffH.out, decide_eq_true (by omega)])
        have hjn : ¬ (j : Int) < (nq : Int) := by omega
        rw [show S.write n (RW.fitO n x : Int) (RW.fitS n x) = (221, S) by rw [RW.Dk.write, hofft.out, if_pos rfl]] at hWr
        go_upto_region 14 with (go_at_call 21; refine hWr.out.mono ?_; rintro e w7 ⟨rfl, pv7, hd7, ht7, hB7⟩; have hd7H := hide hd7; have hg7 := hide (ht7.buf hd5.out hg5.out hgdb.out.1 hgdb.out.2); have hO7 := hide (own_tch hO5.out hd5.out ht7 (by decide)); have hBw7 := hide (hBw5.out.trans (hB7.mono hB0l.out)); clear hd7 ht7 hB7)
        clear e0 e1
        go_wp2
        go_roundw
        case rel => exact ⟨j + 1, by go_num, by omega, S, pv7, hd7H.out, ⟨by rw [hofft.out, decide_eq_true (by omega)], by rw [hleftH.out]; omega, by rw [hplH.out]; omega⟩, ⟨hokH.out, hrpH.out⟩, hg7.out, by rw [show min (j + 1) nq = nq by omega]; exact hO7.out, hBw7.out⟩
        case measure => simp [intOf]; omega
end Go.Proofs.Ytehenjgggaedeaa

/-
  Package royaltylaw22: DiskSynced: it returns true; only new memory is written.
-/
import Derived.Test.YtehenjgggaedeaaDk12
namespace Go.Proofs.Ytehenjgggaedeaa
open Go.RowKit
attribute [local go_sem ↓] ldRow_wp
namespace RW
theorem wrote_ok {S : Dk} {n : Nat} {x : Wp} (h : S.ok n) : (S.wrote n x).ok n := by
  intro y hy
  rcases List.mem_append.1 (show y ∈ S.pend ++ [(fitO n x, fitS n x)] from hy) with h1 | h1
  · exact h y h1
  · rw [List.mem_singleton] at h1
    rw [h1]
    exact fit_le n x
theorem survive_nil (k : Nat) : survive k [] = [] := by
  unfold survive
  rw [List.mergeSort_nil]
  rfl
theorem crash_empty (S : Dk) (torn : Int) : S.crash [] torn = ⟨false, 0, S.dur, S.dur, []⟩ := by
  rw [Dk.crash, survive_nil]
  rfl
end RW
set_option maxRecDepth 10000 in
set_option maxHeartbeats 2000000 in
theorem synced_any (z torn : Int) (hz : -9223372036854775808 ≤ z) (hz2 : z ≤ 9223372036854775807) (v : Value) (l : List RW.Wp) (hl : ∀ x ∈ l, (-9223372036854775808 ≤ x.1 ∧ x.1 ≤ 9223372036854775807) ∧ x.2.1.size ≤ 9223372036854775807) (w : World) (hv : RowV 3 RW.wpl w v l) :
    Calls Try.prog 7 #[.int .i64 z, v, .int .i64 torn] w fun e w' => e = .returned (.bool true) ∧ Below w.heap.size w w' := by
  have hS := hide (sane_any w)
  have hP := hide (fun W => pick_any z 300 hz hz2 (by decide) (by decide) W)
  have hpb := RW.pickI_bd z 300 (by decide)
  obtain ⟨p, hp⟩ : ∃ p, p = RW.pickI z 300 := ⟨_, rfl⟩
  rw [← hp] at hP hpb
  obtain ⟨n, hn⟩ : ∃ n : Nat, (n : Int) = 1 + p := ⟨(1 + p).toNat, by omega⟩
  have hn1 : 1 ≤ n := by omega
  have hn2 : n ≤ 300 := by omega
  have hn3 : n ≤ 4194304 := by omega
  have hN := hide (fun W => new_any n hn1 hn3 W)
  have hnH := hide hn
  have hlH := hide hl
  obtain ⟨av, cv, rfl, hcv, hav⟩ := hv
  obtain ⟨m, hm⟩ : ∃ m, m = l.length := ⟨_, rfl⟩
  have hmH := hide hm
  have havH := hide hav
  rw [← hm] at hcv ⊢
  obtain ⟨B, hB⟩ : ∃ B, B = w.heap.size := ⟨_, rfl⟩
  have hBH := hide hB
  rw [← hB] at hS ⊢
  obtain ⟨hp0, hp1⟩ := hpb
  clear hz hz2 hp hn hl hm hav hB hcv
  go_enter Try.func7, Try.ntmps7
  go_upto_region 3 with (first
    | (go_at_call 12; refine hS.out.mono ?_; rintro e w1 ⟨rfl, hB1⟩; have hB1H := hide hB1; clear hB1)
    | (go_at_call 15; refine (hP.out _).mono ?_; rintro e w' ⟨rfl, rfl⟩))
  rw [← hnH.out]
  clear hp0 hp1 hP
  go_upto_region 6 with (go_at_call 13; refine (hN.out _).mono ?_; rintro e w2 ⟨b, rfl, ⟨db, vb, hd2⟩, hB2⟩; have hd2H := hide hd2; have hB2H := hide (hB1H.out.trans (hB2.mono (by rw [hBH.out]; exact hBH.out ▸ hB1H.out.size))); clear hd2 hB2)
  have hmk := run_make_by n hn3 w2
  obtain ⟨B0, hB0⟩ : ∃ x, x = w1.heap.size := ⟨_, rfl⟩
  rw [← hB0] at hd2H
  have hB0l := hide (show B ≤ B0 by rw [hB0, hBH.out]; exact hBH.out ▸ hB1H.out.size)
  go_upto_region 7 with fail
  obtain ⟨g, hg⟩ : ∃ x, x = w2.heap.size := ⟨_, rfl⟩
  have hA := hide ((Below.refl w2.heap.size w2).alloc (Nat.le_refl _) (.cells (RW.byl (List.replicate n 0)).toArray 5))
  have hgdb := hide (show g ≠ db ∧ g ≠ vb from ⟨by rw [hg]; exact Ne.symm (Nat.ne_of_lt hd2H.out.lt.2.1), by rw [hg]; exact Ne.symm (Nat.ne_of_lt hd2H.out.lt.2.2)⟩)
  refine gen_w (fun W => W.heap[g]? = some (.cells (RW.byl (List.replicate n 0)).toArray 5 (0, 0)) ∧ DiskAt W B0 b n db vb (.slice none 0 0) (RW.dk0 n) ∧ Below B w W) ⟨newAt hg, hd2H.out.next hA.out, hB2H.out.trans (hA.out.mono (by rw [hBH.out]; exact hBH.out ▸ hB2H.out.size))⟩ ?_
  rw [← hg]
  have hgB := hide (show B ≤ g by rw [hg, hBH.out]; exact hBH.out ▸ hB2H.out.size)
  clear hg hA hmk hd2H hB2H hB1H hB0 hN hS
  rintro w3 ⟨g1, g2, g3⟩
  have hg3 := hide g1
  have hd3 := hide g2
  have hB3 := hide g3
  clear g1 g2 g3
  have hcv0 := run_conv_all w3 g n (List.replicate n 0) List.length_replicate hg3.out
  go_wp2
  clear hcv0
  go_loopw [11, 12] (fun su i wr => ∃ (j : Nat) (X : ByteArray), su = .string X ∧ i = .int .i64 j ∧ j ≤ 60 ∧ Hid (∃ S pv, X = RW.strOf S.dur ∧ S.ok n ∧ DiskAt wr B0 b n db vb pv S ∧ S.off = false ∧ S.left = 0 ∧ S.pend.length ≤ j ∧ wr.heap[g]? = some (.cells (RW.byl S.vis).toArray 5 (0, 0)) ∧ Below B w wr)) (fun _ i _ => 60 - (intOf i).toNat)
  case atStart => exact ⟨0, _, rfl, rfl, by decide, RW.dk0 n, _, rfl, (fun y hy => by cases hy), hd3.out, rfl, rfl, Nat.le_refl _, hg3.out, hB3.out⟩
  case round =>
    obtain ⟨j, X, rfl, rfl, hj, hQ⟩ := hrel
    clear hg3 hd3 hB3
    obtain ⟨c, hc⟩ : ∃ c : Bool, c = decide (j < m ∧ j < 60) := ⟨_, rfl⟩
    have hcH := hide hc
    clear hc
    obtain ⟨wo, hwo⟩ : ∃ wo, wo = wr := ⟨_, rfl⟩
    subst hwo
    go_upto_region 9 with fail
    go_cut [39] (fun s wx => s = .bool c ∧ wx = wo)
    case first =>
      by_cases h1 : j < m
      · by_cases h2 : j < 60
        · have h2i : (j : Int) < 60 := by omega
          go_wp2
          all_goals go_meet
          all_goals exact ⟨by rw [hcH.out, decide_eq_true (show j < m ∧ j < 60 from ⟨h1, h2⟩)] <;> rfl, rfl⟩
        · obtain rfl : j = 60 := by omega
          go_wp2
          all_goals go_meet
          all_goals exact ⟨by rw [hcH.out, decide_eq_false (show ¬ (60 < m ∧ 60 < 60) by omega)] <;> rfl, rfl⟩
      · go_wp2
        all_goals go_meet
        all_goals exact ⟨by rw [hcH.out, decide_eq_false (show ¬ (j < m ∧ j < 60) by omega)] <;> rfl, rfl⟩
    case rest =>
    obtain ⟨rfl, hwx⟩ := hcut
    have hwx' := hwx.symm
    subst hwx'
    cases c
    · obtain ⟨S, pv, rfl, hok, hd, _, _, _, _, hBw⟩ := hQ.out
      have hCr := hide (crash_any B0 b n db vb pv S (.slice none 0 0) [] torn wo hd hok (by decide) ⟨none, 0, rfl, .inl rfl⟩)
      rw [RW.crash_empty] at hCr
      have hBwH := hide hBw
      clear hQ hBw hok hd
      go_wp2_with (first
        | (go_at_call 25; refine hCr.out.mono ?_; rintro e w8 ⟨rfl, pv8, hd8, ht8, hB8⟩; have hd8H := hide hd8; have hBw8 := hide (hBwH.out.trans (hB8.mono hB0l.out)); clear hd8 ht8 hB8)
        | (go_at_call 14; refine (read_ok B0 b n db vb pv8 ⟨false, 0, S.dur, S.dur, []⟩ rfl w8 hd8H.out).mono ?_; rintro e w' ⟨rfl, rfl⟩)
        | (go_at_call 17; refine (pending_any w8 hd8H.out).mono ?_; rintro e w' ⟨rfl, rfl⟩))
      go_ret
      exact ⟨rfl, hBw8.out⟩
    · obtain ⟨hlt, hj60⟩ : j < m ∧ j < 60 := of_decide_eq_true hcH.out.symm
      obtain ⟨S, pv, hX, hok, hd, hoff, hleft, hpl, hgr, hBw⟩ := hQ.out
      have hXH := hide hX
      have hokH := hide hok
      clear hX hok
      have hdH := hide hd
      have hoffH := hide hoff
      have hleftH := hide hleft
      have hplH := hide hpl
      have hgrH := hide hgr
      have hBwH := hide hBw
      clear hQ hd hoff hleft hpl hgr hBw hcH
      obtain ⟨x, hx⟩ : ∃ x, l[j]? = some x := ⟨_, List.getElem?_eq_getElem (by rw [← hmH.out]; exact hlt)⟩
      have hxb := hlH.out x (List.mem_of_getElem? hx)
      obtain ⟨bq, oq, rfl, hbq, hcq⟩ := havH.out.resolve_left (by rintro rfl; simp at hx)
      have hrg : wo.rangeAt bq (oq + j * 3) (RW.wpl x) := fun i u hu => (World.cell?_of_block (a := ⟨bq, oq + j * 3 + i, none⟩) (hBwH.out.block _ (by rw [hBH.out]; exact hbq))).trans (hcq j x hx i u hu)
      have hps := wp_size x
      have hFi := hide (fun W => fits_any n (by omega) x hxb.1.1 hxb.1.2 hxb.2 W)
      have hfs := fit_size n x
      have hPu := hide (fun W (h : W.heap[g]? = some (.cells (RW.byl S.vis).toArray 5 (0, 0))) => put_any g n S.vis (RW.fitO n x) (RW.fitS n x) hn3 hdH.out.lv (RW.fit_le n x) W h)
      have hfle := hide (RW.fit_le n x)
      have hfO := hide (show (RW.fitL n x).toArray[0]? = some (.int .i64 (RW.fitO n x : Int)) from rfl)
      have hf1 := hide (show (RW.fitL n x).toArray[1]? = some (.string (RW.fitS n x)) from rfl)
      obtain ⟨sy, hsy⟩ : ∃ b : Bool, b = x.2.2 := ⟨_, rfl⟩
      have hf2 := hide (show (RW.fitL n x).toArray[2]? = some (.bool sy) by rw [hsy]; rfl)
      have hwrt := hide (RW.write_fit (S := S) (n := n) (x := x) hoffH.out hleftH.out)
      have hszS := hide (show (RW.fitS n x).size ≤ 9223372036854775807 by have := hfle.out; omega)
      have hso := hide (Nat.le_trans hdH.out.hb (Nat.le_of_lt hdH.out.lt.1))
      have hso0 := hide (show B ≤ wo.heap.size by rw [hBH.out]; exact hBH.out ▸ hBwH.out.size)
      clear hbq hcq hx hxb
      go_upto_region 12 with (first
        | (refine wpList_load_mid rfl 53 (.tmp 44) rfl bq (oq + j * 3) rfl (RW.wpl x) _ hrg Try.underlying53 rfl hps ?_)
        | (go_at_call 26; refine (hFi.out _).mono ?_; rintro e w4 ⟨rfl, hB4⟩; have hB4H := hide hB4; clear hB4)
        | (refine wpListStoreNew rfl 53 (.tmp 13) (.tmp 47) rfl (RW.fitL n x).toArray rfl rfl 53 _ hfs rfl (fit_one n x) ?_))
      obtain ⟨wb, hwb⟩ : ∃ k, k = w4.heap.size := ⟨_, rfl⟩
      have hA4 := hide (hB4H.out.alloc hB4H.out.size (.cells (RW.fitL n x).toArray 53))
      refine gen_w (fun W => W.heap[wb]? = some (.cells (RW.fitL n x).toArray 53 (0, 0)) ∧ Below wo.heap.size wo W) ⟨newAt hwb, hA4.out⟩ ?_
      rw [← hwb]
      clear hwb hA4 hB4H hrg hFi
      rintro w5 ⟨k1, k2⟩
      have e0 : w5.cell? ⟨wb, 0, none⟩ = some (.int .i64 (RW.fitO n x : Int)) := (cellAt k1 0).trans hfO.out
      have e1 : w5.cell? ⟨wb, 1, none⟩ = some (.string (RW.fitS n x)) := (cellAt k1 1).trans hf1.out
      have hw5 := hide k1
      have hB5 := hide k2
      have hd5 := hide (hdH.out.next k2)
      have hg5 := hide ((k2.block g (Array.getElem?_eq_some_iff.1 hgrH.out).1).trans hgrH.out)
      have hwbg := hide (blocks_ne k1 hg5.out (by decide))
      clear k1 k2
      go_upto_region 13 with (go_at_call 27; refine (hPu.out _ hg5.out).mono ?_; rintro e w6 ⟨⟨u6, rfl⟩, hg6, hc6⟩; have hg6H := hide hg6; have hc6H := hide hc6; clear hg6 hc6)
      have hd6 := hide (hd5.out.chg hg5.out hgdb.out.1 hgdb.out.2 hc6H.out)
      have hw6 := hide ((hc6H.out.block wb (Array.getElem?_eq_some_iff.1 hw5.out).1 hwbg.out).trans hw5.out)
      have e0' : w6.cell? ⟨wb, 0, none⟩ = some (.int .i64 (RW.fitO n x : Int)) := (cellAt hw6.out 0).trans hfO.out
      have e1' : w6.cell? ⟨wb, 1, none⟩ = some (.string (RW.fitS n x)) := (cellAt hw6.out 1).trans hf1.out
      have hBw6 := hide ((hBwH.out.trans (hB5.out.mono hso0.out)).trans (hc6H.out.below hgB.out (Nat.le_trans hso0.out hB5.out.size)))
      have hWr := hide (write_any B0 b n db vb pv S (RW.fitO n x : Int) (RW.fitS n x) w6 hd6.out (by have := hplH.out; omega) hszS.out)
      rw [hwrt.out] at hWr
      clear hc6H hd5 hg5 hw5 hB5 e0 e1 hdH hgrH hBwH
      have he0 := e0'
      have he1 := e1'
      clear hsy e0' e1'
      cases sy
      · go_upto_region 15 with (go_at_call 21; refine hWr.out.mono ?_; rintro e w7 ⟨rfl, pv7, hd7, ht7, hB7⟩; have hd7H := hide hd7; have hg7 := hide (ht7.buf hd6.out hg6H.out hgdb.out.1 hgdb.out.2); have hw7 := hide (ht7.par hd6.out hw6.out); have e2 : w7.cell? ⟨wb, 2, none⟩ = some (.bool false) := (cellAt hw7.out 2).trans hf2.out; have hBw7 := hide (hBw6.out.trans (hB7.mono hB0l.out)); clear hd7 ht7 hB7)
        go_wp2
        go_roundw
        case rel => exact ⟨j + 1, X, rfl, by go_num, by omega, (S.wrote n x), pv7, hXH.out, RW.wrote_ok hokH.out, hd7H.out, rfl, rfl, by show (S.pend ++ [_]).length ≤ j + 1; rw [List.length_append]; have := hplH.out; simp; omega, hg7.out, hBw7.out⟩
        case measure => simp [intOf]; omega
      · go_upto_region 15 with (first
          | (go_at_call 21; refine hWr.out.mono ?_; rintro e w7 ⟨rfl, pv7, hd7, ht7, hB7⟩; have hd7H := hide hd7; have hg7 := hide (ht7.buf hd6.out hg6H.out hgdb.out.1 hgdb.out.2); have hw7 := hide (ht7.par hd6.out hw6.out); have e2 : w7.cell? ⟨wb, 2, none⟩ = some (.bool true) := (cellAt hw7.out 2).trans hf2.out; have hBw7 := hide (hBw6.out.trans (hB7.mono hB0l.out)); clear hd7 ht7 hB7)
          | (go_at_call 23; refine (sync_ok B0 b n db vb pv7 (S.wrote n x) rfl w7 hd7H.out).mono ?_; rintro e w8 ⟨rfl, pv8, hd8, ht8, hB8⟩; have hd8H := hide hd8; have hg8 := hide (ht8.buf hd7H.out hg7.out hgdb.out.1 hgdb.out.2); have hw8 := hide (ht8.par hd7H.out hw7.out); have hBw8 := hide (hBw7.out.trans (hB8.mono hB0l.out)); clear hd8 ht8 hB8))
        have e2' : w8.cell? ⟨wb, 2, none⟩ = some (.bool true) := (cellAt hw8.out 2).trans hf2.out
        have hcv := run_conv_all w8 g n (S.wrote n x).vis hd8H.out.lv hg8.out
        clear e2
        go_wp2
        go_roundw
        case rel => exact ⟨j + 1, _, rfl, by go_num, by omega, ⟨false, (S.wrote n x).left, (S.wrote n x).vis, (S.wrote n x).vis, []⟩, pv8, rfl, (fun y hy => by cases hy), hd8H.out, rfl, rfl, Nat.zero_le _, hg8.out, hBw8.out⟩
        case measure => simp [intOf]; omega
end Go.Proofs.Ytehenjgggaedeaa

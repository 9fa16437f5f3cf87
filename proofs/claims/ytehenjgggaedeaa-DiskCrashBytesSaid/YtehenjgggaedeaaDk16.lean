/-
  Package royaltylaw22: DiskCrashBytes: it returns true; only new memory is written.
-/
import Derived.Test.YtehenjgggaedeaaDk16P
namespace Go.Proofs.Ytehenjgggaedeaa
open Go.RowKit
attribute [local go_sem ↓] ldRow_wp
theorem cutT_any (s : ByteArray) (n : Int) (hs : s.size ≤ 9223372036854775807) (h0 : 0 ≤ n) (hn : n ≤ 9223372036854775807) (w : World) : Calls Try.prog 22 #[.string s, .int .i64 n] w fun e w' => e = .returned (.string (RW.tear n s)) ∧ w = w' := by
  obtain ⟨k, hk⟩ : ∃ k, k = min n.toNat s.size := ⟨_, rfl⟩
  have h1 : min (s.size : Int) n = (k : Int) := by omega
  have h2 : k ≤ s.size := by omega
  rw [RW.tear, ← hk]
  clear hk
  go_enter Try.func22, Try.ntmps22
  go_wp2
  go_ret
  exact ⟨rfl, rfl⟩
def RW.kpt (ks : List Bool) (i : Nat) : Bool := ks[i]?.getD false
theorem RW.kpt_out {ks : List Bool} {i : Nat} (h : ks.length ≤ i) : RW.kpt ks i = false := by rw [RW.kpt, List.getElem?_eq_none h]; rfl
set_option maxRecDepth 100000 in
set_option maxHeartbeats 2000000 in
theorem crashbytes_any (z tn : Int) (ht1 : -9223372036854775808 ≤ tn) (ht2 : tn ≤ 9223372036854775807) (hz : -9223372036854775808 ≤ z) (hz2 : z ≤ 9223372036854775807) (v : Value) (l : List RW.Wp) (hl : ∀ x ∈ l, (-9223372036854775808 ≤ x.1 ∧ x.1 ≤ 9223372036854775807) ∧ x.2.1.size ≤ 9223372036854775807) (vk : Value) (ks : List Bool) (w : World) (hv : RowV 3 RW.wpl w v l) (hvk : RowV 1 (fun b => [Value.bool b]) w vk ks) :
    Calls Try.prog 8 #[.int .i64 z, v, vk, .int .i64 tn] w fun e w' => e = .returned (.bool true) ∧ Below w.heap.size w w' := by
  have hS := hide (sane_any w)
  have hP := hide (fun W => pick_any z 100 hz hz2 (by decide) (by decide) W)
  have hpb := RW.pickI_bd z 100 (by decide)
  obtain ⟨p, hp⟩ : ∃ p, p = RW.pickI z 100 := ⟨_, rfl⟩
  rw [← hp] at hP hpb
  obtain ⟨n, hn⟩ : ∃ n : Nat, (n : Int) = 1 + p := ⟨(1 + p).toNat, by omega⟩
  have hn1 : 1 ≤ n := by omega
  have hn2 : n ≤ 100 := by omega
  have hn3 : n ≤ 4194304 := by omega
  have hN := hide (fun W => new_any n hn1 hn3 W)
  have hnH := hide hn
  have hlH := hide hl
  have ht2H := hide ht2
  obtain ⟨av, cv, rfl, hcv, hav⟩ := hv
  obtain ⟨ak, ck, rfl, hck, hak⟩ := hvk
  obtain ⟨m, hm⟩ : ∃ m, m = l.length := ⟨_, rfl⟩
  obtain ⟨mk, hmk⟩ : ∃ m, m = ks.length := ⟨_, rfl⟩
  have hmH := hide hm
  have hmkH := hide hmk
  have havH := hide hav
  have hakH := hide hak
  rw [← hm] at hcv ⊢
  rw [← hmk] at hck ⊢
  obtain ⟨B, hB⟩ : ∃ B, B = w.heap.size := ⟨_, rfl⟩
  have hBH := hide hB
  rw [← hB] at hS ⊢
  obtain ⟨hp0, hp1⟩ := hpb
  clear hz hz2 hp hn hl hm hav hB hcv hmk hak hck ht1 ht2
  go_enter Try.func8, Try.ntmps8
  go_upto_region 3 with (first
    | (go_at_call 12; refine hS.out.mono ?_; rintro e w1 ⟨rfl, hB1⟩; have hB1H := hide hB1; clear hB1)
    | (go_at_call 15; refine (hP.out _).mono ?_; rintro e w' ⟨rfl, rfl⟩))
  rw [← hnH.out]
  clear hp0 hp1 hP
  go_upto_region 4 with (go_at_call 13; refine (hN.out _).mono ?_; rintro e w2 ⟨b, rfl, ⟨db, vb, hd2⟩, hB2⟩; have hd2H := hide hd2; have hB2H := hide (hB1H.out.trans (hB2.mono (by rw [hBH.out]; exact hBH.out ▸ hB1H.out.size))); clear hd2 hB2)
  obtain ⟨B0, hB0⟩ : ∃ x, x = w1.heap.size := ⟨_, rfl⟩
  rw [← hB0] at hd2H
  have hB0l := hide (show B ≤ B0 by rw [hB0, hBH.out]; exact hBH.out ▸ hB1H.out.size)
  have hmk := run_make_by n hn3 w2
  go_wp2
  obtain ⟨g, hg⟩ : ∃ x, x = w2.heap.size := ⟨_, rfl⟩
  have hA := hide ((Below.refl w2.heap.size w2).alloc (Nat.le_refl _) (.cells (RW.byl (List.replicate n 0)).toArray 5))
  have hgdb := hide (show g ≠ db ∧ g ≠ vb from ⟨by rw [hg]; exact Ne.symm (Nat.ne_of_lt hd2H.out.lt.2.1), by rw [hg]; exact Ne.symm (Nat.ne_of_lt hd2H.out.lt.2.2)⟩)
  have hgB := hide (show B ≤ g by rw [hg, hBH.out]; exact hBH.out ▸ hB2H.out.size)
  refine gen_w (fun W => W.heap[g]? = some (.cells (RW.byl (RW.digitsL n 0)).toArray 5 (0, 0)) ∧ DiskAt W B0 b n db vb (.slice none 0 0) (RW.dk0 n) ∧ Below B w W) ⟨RW.digits_zero n ▸ newAt hg, hd2H.out.next hA.out, hB2H.out.trans (hA.out.mono (by rw [hBH.out]; exact hBH.out ▸ hB2H.out.size))⟩ ?_
  rw [← hg]
  clear hg hA hmk hd2H hB2H hB1H hB0 hN hS
  rintro w5 ⟨g1, g2, g3⟩
  have hg3 := hide g1
  have hd3 := hide g2
  have hB3 := hide g3
  clear g1 g2 g3
  go_loopw [13] (fun i wr => ∃ j : Nat, i = .int .i64 j ∧ j ≤ n ∧ Hid (wr.heap[g]? = some (.cells (RW.byl (RW.digitsL n j)).toArray 5 (0, 0)) ∧ DiskAt wr B0 b n db vb (.slice none 0 0) (RW.dk0 n) ∧ Below B w wr)) (fun i _ => n - (intOf i).toNat)
  case atStart => exact ⟨0, rfl, Nat.zero_le _, hg3.out, hd3.out, hB3.out⟩
  case round =>
    obtain ⟨j, rfl, hj, hQ⟩ := hrel
    clear hg3 hd3 hB3
    obtain ⟨wo, hwo⟩ : ∃ wo, wo = wr := ⟨_, rfl⟩
    subst hwo
    by_cases hlt : j < n
    · have hg1 := hQ.out.1
      have hcell : wo.cell? ⟨g, j, none⟩ = some (.int .u8 (((RW.digitsL n j)[j]'(by rw [RW.digits_len]; exact hlt)).toNat : Int)) := by
        rw [cellAt hg1, List.getElem?_toArray, RW.byl, List.getElem?_map, List.getElem?_eq_getElem (by rw [RW.digits_len]; exact hlt)]
        rfl
      have hfz : wo.frozen? ⟨g, j, none⟩ = false := by simp [World.frozen?, hg1]
      have hg1H := hide hg1
      clear hg1
      go_wp2
      go_roundw
      case rel =>
        refine ⟨j + 1, by go_num, by omega, (heap_setCell_same _ _ _ _ _ _ hg1H.out).trans ?_, hQ.out.2.1.chg hg1H.out hgdb.out.1 hgdb.out.2 ((Chg.refl g wo).set _), hQ.out.2.2.trans (((Chg.refl g wo).set _).below hgB.out (by rw [hBH.out]; exact hBH.out ▸ hQ.out.2.2.size))⟩
        rw [← RW.digits_set n j hlt, ← RW.byl_set, RW.digit_nat]
      case measure => simp [intOf]; omega
    · obtain rfl : n = j := by omega
      have hg4 := hQ.out.1
      have hd4H := hide hQ.out.2.1
      have hd4K := hd4H
      have hB4H := hide hQ.out.2.2
      have hg4H := hide hg4
      have hcv := run_conv_all wo g n (RW.digitsL n n) (RW.digits_len n n) hg4
      obtain ⟨D, hD⟩ : ∃ D, D = RW.digitsL n n := ⟨_, rfl⟩
      have hDl := hide (show D.length = n by rw [hD, RW.digits_len])
      rw [← hD] at hcv hg4H
      have hss : (RW.strOf D).size = n := by show D.toArray.size = n; rw [List.size_toArray, hDl.out]
      have hwr : (RW.dk0 n).write n 0 (RW.strOf D) = (0, ⟨false, 0, List.replicate n 0, D, [(0, RW.strOf D)]⟩) := by
        rw [RW.Dk.write, if_neg (show ¬ (RW.dk0 n).off = true from Bool.false_ne_true), if_pos ((RW.insB_iff n 0 _).2 ⟨by decide, by omega, by omega, by rw [hss]; omega⟩)]
        show (0, (⟨_, _, List.replicate n 0, RW.lay (List.replicate n 0) 0 D, [(0, RW.strOf D)]⟩ : RW.Dk)) = _
        rw [RW.lay_full _ _ (by rw [hDl.out, List.length_replicate])]
        rfl
      have hWr := hide (write_any B0 b n db vb (.slice none 0 0) (RW.dk0 n) 0 (RW.strOf D) wo hd4H.out (show (0 : Nat) < 1000000 by decide) (by rw [hss]; omega))
      rw [hwr] at hWr
      clear hQ hd4H hg4 hwr hss hD
      go_upto_region 13 with (first
        | (go_at_call 21; refine hWr.out.mono ?_; rintro e w5 ⟨rfl, pv5, hd5, ht5, hB5⟩; have hd5H := hide hd5; have hg5H := hide (ht5.buf hd4K.out hg4H.out hgdb.out.1 hgdb.out.2); have hBw5 := hide (hB4H.out.trans (hB5.mono hB0l.out)); clear hd5 ht5 hB5)
        | (go_at_call 23; refine (sync_ok B0 b n db vb pv5 _ rfl w5 hd5H.out).mono ?_; rintro e w6 ⟨rfl, pv6, hd6, ht6, hB6⟩; have hd6H := hide hd6; have hg6H := hide (ht6.buf hd5H.out hg5H.out hgdb.out.1 hgdb.out.2); have hBw6 := hide (hBw5.out.trans (hB6.mono hB0l.out)); clear hd6 ht6 hB6))
      obtain ⟨M, hM⟩ : ∃ M, M = min m 20 := ⟨_, rfl⟩
      have hMH := hide hM
      have hM20 : M ≤ 20 := by omega
      clear hcv hWr hd4K hg4H hB4H hd5H hg5H hBw5 hM
      obtain ⟨w7, hw7⟩ : ∃ x, x = w6 := ⟨_, rfl⟩
      subst hw7
      go_wp2
      go_loopw [14, 15] (fun z i wr => ∃ j : Nat, i = .int .i64 j ∧ z = .int .i64 (RW.lastK (RW.kpt ks) j) ∧ j ≤ M ∧ Hid (wr = w7)) (fun _ i _ => M - (intOf i).toNat)
      case atStart => exact ⟨0, rfl, rfl, Nat.zero_le _, rfl⟩
      case round =>
        obtain ⟨j, rfl, rfl, hj, hQ⟩ := hrel
        obtain ⟨wo, hwo⟩ : ∃ wo, wo = wr := ⟨_, rfl⟩
        subst hwo
        have hwe := hQ.out
        subst hwe
        clear hQ
        obtain ⟨c, hc⟩ : ∃ c : Bool, c = decide (j < M) := ⟨_, rfl⟩
        have hcH := hide hc
        clear hc
        obtain ⟨q, hq⟩ : ∃ q : Int, q = RW.lastK (RW.kpt ks) j := ⟨_, rfl⟩
        have hqH := hide hq
        rw [← hq]
        clear hq
        go_upto_region 15 with fail
        go_cut [65] (fun s wx => s = .bool c ∧ wx = wo)
        case first =>
          by_cases h1 : j < m
          · by_cases h2 : j < 20
            · have h2i : (j : Int) < 20 := by omega
              go_wp2
              all_goals go_meet
              all_goals exact ⟨by rw [hcH.out, decide_eq_true (show j < M by have := hMH.out; omega)] <;> rfl, rfl⟩
            · have h2i : ¬ (j : Int) < 20 := by omega
              go_wp2
              all_goals go_meet
              all_goals exact ⟨by rw [hcH.out, decide_eq_false (show ¬ j < M by omega)] <;> rfl, rfl⟩
          · go_wp2
            all_goals go_meet
            all_goals exact ⟨by rw [hcH.out, decide_eq_false (show ¬ j < M by have := hMH.out; omega)] <;> rfl, rfl⟩
        case rest =>
        obtain ⟨rfl, hwx⟩ := hcut
        have hwx' := hwx.symm
        subst hwx'
        cases c
        · obtain rfl : j = M := by have := of_decide_eq_false hcH.out.symm; omega
          obtain ⟨L, hL⟩ : ∃ L, L = RW.lastK (RW.kpt ks) j := ⟨_, rfl⟩
          have hLH := hide (show L = RW.lastK (RW.kpt ks) j from hL)
          have hqL := hide (show q = L by rw [hqH.out, hL])
          clear hL hcH hqH
          obtain rfl := hqL.out
          clear hqL
          obtain ⟨M, hMe⟩ : ∃ M, M = j := ⟨_, rfl⟩
          subst hMe
          go_wp2
          go_loopw [16, 17] (fun z i wr => ∃ j : Nat, i = .int .i64 j ∧ j ≤ M ∧ Hid (∃ S pv, DiskAt wr B0 b n db vb pv S ∧ (S.off = false ∧ S.left = 0 ∧ S.pend.length = j ∧ S.dur = D) ∧ S.ok n ∧ wr.heap[g]? = some (.cells (RW.byl (RW.wantK S.pend tn (RW.kpt ks) q D j)).toArray 5 (0, 0)) ∧ IntsO wr B z (RW.numK (RW.kpt ks) j) ∧ Below B w wr)) (fun _ i _ => M - (intOf i).toNat)
          case atStart => exact ⟨0, rfl, Nat.zero_le _, _, _, hd6H.out, ⟨rfl, rfl, rfl, rfl⟩, (fun y hy => by cases hy), hg6H.out, World.ownsRow_nil _ _ _ _, hBw6.out⟩
          case round =>
            obtain ⟨j, rfl, hj, hQ⟩ := hrel
            clear hd6H hg6H
            obtain ⟨wo, hwo⟩ : ∃ wo, wo = wr := ⟨_, rfl⟩
            subst hwo
            obtain ⟨S, pv, hd, hSq0, hok, hgr, hO, hBw⟩ := hQ.out
            obtain ⟨nq, hnq⟩ : ∃ q, q = (RW.numK (RW.kpt ks) j).length := ⟨_, rfl⟩
            have hnl := RW.numK_len (RW.kpt ks) j
            rw [← hnq] at hnl
            obtain ⟨az, cz, rfl⟩ := IntsO.formN hO hnq.symm
            have hdH := hide hd
            have hSq := hide hSq0
            have hokH := hide hok
            have hgrH := hide hgr
            have hOH := hide hO
            have hBwH := hide hBw
            have hnqH := hide hnq
            obtain ⟨c, hc⟩ : ∃ c : Bool, c = decide (j < M) := ⟨_, rfl⟩
            have hcH := hide hc
            clear hc hQ hd hSq0 hok hgr hO hBw hnq
            go_upto_region 21 with fail
            go_cut [86] (fun s wx => s = .bool c ∧ wx = wo)
            case first =>
              by_cases h1 : j < m
              · by_cases h2 : j < 20
                · have h2i : (j : Int) < 20 := by omega
                  go_wp2
                  all_goals go_meet
                  all_goals exact ⟨by rw [hcH.out, decide_eq_true (show j < M by have := hMH.out; omega)] <;> rfl, rfl⟩
                · have h2i : ¬ (j : Int) < 20 := by omega
                  go_wp2
                  all_goals go_meet
                  all_goals exact ⟨by rw [hcH.out, decide_eq_false (show ¬ j < M by omega)] <;> rfl, rfl⟩
              · go_wp2
                all_goals go_meet
                all_goals exact ⟨by rw [hcH.out, decide_eq_false (show ¬ j < M by have := hMH.out; omega)] <;> rfl, rfl⟩
            case rest =>
            obtain ⟨rfl, hwx⟩ := hcut
            have hwx' := hwx.symm
            subst hwx'
            cases c
            · obtain rfl : M = j := by have := of_decide_eq_false hcH.out.symm; omega
              have hcrE := hide (show S.crash (RW.numK (RW.kpt ks) M) tn = ⟨false, 0, RW.wantK S.pend tn (RW.kpt ks) q D M, RW.wantK S.pend tn (RW.kpt ks) q D M, []⟩ by rw [RW.crash_kept S tn (RW.kpt ks) M hSq.out.2.2.1, hLH.out, hSq.out.2.2.2])
              have hCr := hide (crash_any B0 b n db vb pv S _ (RW.numK (RW.kpt ks) M) tn wo hdH.out hokH.out (by rw [← hnqH.out]; omega) (IntsB.ofOwn (B := B) (v := .slice az nq cz) hOH.out))
              rw [hcrE.out] at hCr
              obtain ⟨E, hE⟩ : ∃ E, E = RW.wantK S.pend tn (RW.kpt ks) q D M := ⟨_, rfl⟩
              rw [← hE] at hCr hgrH
              clear hcH hE
              go_upto_region 33 with (go_at_call 25; refine hCr.out.mono ?_; rintro e w10 ⟨rfl, pv10, hd10, ht10, hB10⟩; have hd10H := hide hd10; have hBw10 := hide (hBwH.out.trans (hB10.mono hB0l.out)); have hg10 := hide (ht10.buf hdH.out hgrH.out hgdb.out.1 hgdb.out.2); clear hd10 ht10 hB10)
              have hcv := run_conv_all w10 g n E hd10H.out.lv hg10.out
              have hRd := hide (read_ok B0 b n db vb pv10 ⟨false, 0, E, E, []⟩ rfl w10 hd10H.out)
              go_wp2_with (go_at_call 14; refine hRd.out.mono ?_; rintro e w' ⟨rfl, rfl⟩)
              go_ret
              exact ⟨rfl, hBw10.out⟩
            · have hjM : j < M := of_decide_eq_true hcH.out.symm
              have hjm := hide (show j < m by have := hMH.out; omega)
              obtain ⟨x, hx⟩ : ∃ x, l[j]? = some x := ⟨_, List.getElem?_eq_getElem (by rw [← hmH.out]; exact hjm.out)⟩
              have hxb := hlH.out x (List.mem_of_getElem? hx)
              obtain ⟨bq, oq, rfl, hbq, hcq⟩ := havH.out.resolve_left (by rintro rfl; simp at hx)
              have hrg : wo.rangeAt bq (oq + j * 3) (RW.wpl x) := fun i u hu => (World.cell?_of_block (a := ⟨bq, oq + j * 3 + i, none⟩) (hBwH.out.block _ (by rw [hBH.out]; exact hbq))).trans (hcq j x hx i u hu)
              have hlt := hjm.out
              have hps := wp_size x
              have hFi := hide (fun W => fits_any n (by omega) x hxb.1.1 hxb.1.2 hxb.2 W)
              have hfs := fit_size n x
              have hfle := hide (RW.fit_le n x)
              have hfO := hide (show (RW.fitL n x).toArray[0]? = some (.int .i64 (RW.fitO n x : Int)) from rfl)
              have hf1 := hide (show (RW.fitL n x).toArray[1]? = some (.string (RW.fitS n x)) from rfl)
              have hszS := hide (show (RW.fitS n x).size ≤ 9223372036854775807 by have := hfle.out; omega)
              have hso0 := hide (show B ≤ wo.heap.size by rw [hBH.out]; exact hBH.out ▸ hBwH.out.size)
              clear hbq hcq hx hxb hcH
              go_upto_region 24 with (first
                | (refine wpList_load_mid rfl 53 (.tmp 91) rfl bq (oq + j * 3) rfl (RW.wpl x) _ hrg Try.underlying53 rfl hps ?_)
                | (go_at_call 26; refine (hFi.out _).mono ?_; rintro e w4 ⟨rfl, hB4⟩; have hB4H := hide hB4; clear hB4)
                | (refine wpListStoreNew rfl 53 (.tmp 18) (.tmp 94) rfl (RW.fitL n x).toArray rfl rfl 53 _ hfs rfl (fit_one n x) ?_))
              obtain ⟨wb, hwb⟩ : ∃ k, k = w4.heap.size := ⟨_, rfl⟩
              have hA4 := hide (hB4H.out.alloc hB4H.out.size (.cells (RW.fitL n x).toArray 53))
              refine gen_w (fun W => W.heap[wb]? = some (.cells (RW.fitL n x).toArray 53 (0, 0)) ∧ Below wo.heap.size wo W) ⟨newAt hwb, hA4.out⟩ ?_
              rw [← hwb]
              clear hwb hA4 hB4H hrg hFi
              rintro w5 ⟨k1, k2⟩
              have e0 : w5.cell? ⟨wb, 0, none⟩ = some (.int .i64 (RW.fitO n x : Int)) := (cellAt k1 0).trans hfO.out
              have e1 : w5.cell? ⟨wb, 1, none⟩ = some (.string (RW.fitS n x)) := (cellAt k1 1).trans hf1.out
              have hw5 := hide k1
              have hd5 := hide (hdH.out.next k2)
              have hg5 := hide ((k2.block g (Array.getElem?_eq_some_iff.1 hgrH.out).1).trans hgrH.out)
              have hO5 := hide (own_next hOH.out k2)
              have hBw5 := hide (hBwH.out.trans (k2.mono hso0.out))
              clear k1 k2
              have hWr := hide (write_any B0 b n db vb pv S (RW.fitO n x : Int) (RW.fitS n x) w5 hd5.out (by have := hSq.out.2.2.1; omega) hszS.out)
              rw [RW.write_fit hSq.out.1 hSq.out.2.1] at hWr
              clear hdH hgrH hOH hBwH
              obtain ⟨y, hy⟩ : ∃ y : Bool, RW.kpt ks j = y := ⟨_, rfl⟩
              have hyH := hide hy
              clear hy
              go_upto_region 26 with (go_at_call 21; refine hWr.out.mono ?_; rintro e w7 ⟨rfl, pv7, hd7, ht7, hB7⟩; have hd7H := hide hd7; have hg7 := hide (ht7.buf hd5.out hg5.out hgdb.out.1 hgdb.out.2); have hw7 := hide (ht7.par hd5.out hw5.out); have hO7 := hide (own_tch hO5.out hd5.out ht7 (by decide)); have hBw7 := hide (hBw5.out.trans (hB7.mono hB0l.out)); clear hd7 ht7 hB7)
              clear e0 e1
              go_cut [111] (fun s wx => s = .bool y ∧ wx = w7)
              case first =>
                by_cases hjk : j < mk
                · obtain ⟨bk, ok, rfl, hbk, hck⟩ := hakH.out.resolve_left (by rintro rfl; have := hmkH.out; simp at this; omega)
                  have hks : ks[j]? = some y := by
                    have h1 := hyH.out
                    rw [RW.kpt, List.getElem?_eq_getElem (by rw [← hmkH.out]; exact hjk)] at h1
                    rw [List.getElem?_eq_getElem (by rw [← hmkH.out]; exact hjk)]
                    exact congrArg some h1
                  have hkc : w7.cell? ⟨bk, ok + j, none⟩ = some (.bool y) := (World.cell?_of_block (a := ⟨bk, ok + j, none⟩) (hBw7.out.block _ (by rw [hBH.out]; exact hbk))).trans (by have := hck j y hks 0 _ rfl; rw [Nat.mul_one, Nat.add_zero] at this; exact this)
                  clear hks hbk hck
                  go_wp2
                  all_goals go_meet
                  all_goals exact ⟨by cases y <;> rfl, rfl⟩
                · have hyf : y = false := by rw [← hyH.out]; exact RW.kpt_out (by have := hmkH.out; omega)
                  go_wp2
                  all_goals go_meet
                  all_goals exact ⟨by rw [hyf] <;> rfl, rfl⟩
              case rest =>
              obtain ⟨rfl, hwx⟩ := hcut
              have hwx' := hwx.symm
              subst hwx'
              cases y
              · go_wp2
                go_roundw
                case rel => exact ⟨j + 1, by go_num, by omega, S.wrote n x, pv7, hd7H.out, ⟨rfl, rfl, by show (S.pend ++ [_]).length = _; rw [List.length_append, hSq.out.2.2.1]; rfl, hSq.out.2.2.2⟩, RW.wrote_ok hokH.out, by show w7.heap[g]? = some (.cells (RW.byl (RW.wantK (S.pend ++ [(RW.fitO n x, RW.fitS n x)]) tn (RW.kpt ks) q D (j + 1))).toArray 5 (0, 0)); rw [RW.wantK_left hSq.out.2.2.1 hyH.out]; exact hg7.out, by rw [RW.numK, hyH.out]; exact hO7.out, hBw7.out⟩
                case measure => simp [intOf]; omega
              · have hnk := hide (show RW.numK (RW.kpt ks) (j + 1) = (j : Int) :: RW.numK (RW.kpt ks) j by rw [RW.numK, hyH.out, if_pos rfl])
                have hown : (w7.alloc (.cells (rowCells (fun z => [Value.int .i64 z]) [(j : Int)]).toArray 3)).ownsRow w7.heap.size 3 1 (.slice (some ⟨w7.heap.size, 0, none⟩) 1 1) [(j : Int)].length (rowCells (fun z => [Value.int .i64 z]) [(j : Int)]) := World.ownsRow_lit w7 _ 1 (Nat.le_refl _) (by decide) rfl
                have hrow : RowV 1 (fun z => [Value.int .i64 z]) (w7.alloc (.cells (rowCells (fun z => [Value.int .i64 z]) [(j : Int)]).toArray 3)) (.slice az nq cz) (RW.numK (RW.kpt ks) j) := rowV_own (B := B) (e := 3) (n := (RW.numK (RW.kpt ks) j).length) (fun _ => rfl) (by decide) (by rw [intCells (RW.numK (RW.kpt ks) j)]; exact hO7.out.alloc _)
                obtain ⟨v9, w9, hrun, hO9, hB9, _⟩ := run_app_rows (P := Try.prog) 37 Try.underlying37 int_info (by rfl) (by decide) (fun _ => rfl) (by intro x u hu; simp at hu; rw [hu]; rfl) hown (by simp) hrow (by rw [← hnqH.out]; unfold maxLen; simp; omega) (by rw [← hnqH.out]; simp; omega)
                have hB9' := ((Below.refl w7.heap.size w7).alloc (Nat.le_refl _) (.cells (rowCells (fun z => [Value.int .i64 z]) [(j : Int)]).toArray 3)).trans hB9
                rw [intCells] at hO9
                have hlB := hide (show B ≤ w7.heap.size by rw [hBH.out]; exact hBH.out ▸ hBw7.out.size)
                have hO9H := hide (show IntsO w9 B v9 (RW.numK (RW.kpt ks) (j + 1)) by rw [hnk.out]; exact own_base hO9 hlB.out)
                obtain ⟨a9, c9, hv9⟩ := IntsO.formN (k := nq + 1) hO9H.out (by rw [hnk.out, hnqH.out]; rfl)
                subst hv9
                have hd9 := hide (hd7H.out.next hB9')
                have hg9 := hide ((hB9'.block g (Array.getElem?_eq_some_iff.1 hg7.out).1).trans hg7.out)
                have hw9 := (hB9'.block wb (Array.getElem?_eq_some_iff.1 hw7.out).1).trans hw7.out
                have hBw9 := hide (hBw7.out.trans (hB9'.mono hlB.out))
                have e0' : w9.cell? ⟨wb, 0, none⟩ = some (.int .i64 (RW.fitO n x : Int)) := (cellAt hw9 0).trans hfO.out
                have e1' : w9.cell? ⟨wb, 1, none⟩ = some (.string (RW.fitS n x)) := (cellAt hw9 1).trans hf1.out
                clear hown hrow hO9 hB9 hB9' hw9 hd7H hg7 hO7 hBw7
                go_upto_region 29 with (at_builtin; refine wpList_app_run rfl (.tmp 113) (.tmp 114) rfl rfl rfl hrun ?_)
                obtain ⟨sq, hsq⟩ : ∃ sq, sq = (if (j : Int) = q ∧ 0 ≤ tn then RW.tear tn (RW.fitS n x) else RW.fitS n x) := ⟨_, rfl⟩
                have hsqH := hide hsq
                have hsle := hide (show RW.fitO n x + sq.size ≤ n by
                  have h1 := RW.tear_size tn (RW.fitS n x)
                  have h2 := hfle.out
                  rw [hsq]
                  split <;> omega)
                have hWl := hide (show (RW.wantK S.pend tn (RW.kpt ks) q D j).length = n by rw [RW.wantK_len _ _ _ _ _ (by rw [hDl.out]; exact hokH.out), hDl.out])
                have hPu := hide (fun W (h : W.heap[g]? = some (.cells (RW.byl (RW.wantK S.pend tn (RW.kpt ks) q D j)).toArray 5 (0, 0))) => put_any g n (RW.wantK S.pend tn (RW.kpt ks) q D j) (RW.fitO n x) sq hn3 hWl.out hsle.out W h)
                clear hsq
                by_cases hjq : (j : Int) = q
                · by_cases htn : 0 ≤ tn
                  · have hsq := hide (show sq = RW.tear tn (RW.fitS n x) by rw [hsqH.out, if_pos ⟨hjq, htn⟩])
                    have hCt := hide (fun W => cutT_any (RW.fitS n x) tn hszS.out htn ht2H.out W)
                    rw [← hsq.out] at hCt
                    go_upto_region 31 with (go_at_call 22; refine (hCt.out _).mono ?_; rintro e w' ⟨rfl, rfl⟩)
                    go_wp2_with (go_at_call 27; refine (hPu.out _ hg9.out).mono ?_; rintro e w10 ⟨⟨u10, rfl⟩, hg10, hc10⟩; have hg10H := hide hg10; have hc10H := hide hc10; clear hg10 hc10)
                    have hd10 := hide (hd9.out.chg hg9.out hgdb.out.1 hgdb.out.2 hc10H.out)
                    have hBw10 := hide (hBw9.out.trans (hc10H.out.below hgB.out (by rw [hBH.out]; exact hBH.out ▸ hBw9.out.size)))
                    have hO10 := hide (show IntsO w10 B (.slice a9 (nq + 1) c9) (RW.numK (RW.kpt ks) (j + 1)) from own_keep hO9H.out fun k hk => hc10H.out.block k (hO9H.out.lt k hk).2 (by
                      rcases hO9H.out.2 with ⟨e, _⟩ | ⟨g', cap', cur', e, _, hh, _⟩
                      · rw [e] at hk; cases hk
                      · rw [e] at hk; cases hk; exact blocks_ne hh hg9.out (by decide)))
                    go_roundw
                    case rel => exact ⟨j + 1, by go_num, by omega, S.wrote n x, pv7, hd10.out, ⟨rfl, rfl, by show (S.pend ++ [_]).length = _; rw [List.length_append, hSq.out.2.2.1]; rfl, hSq.out.2.2.2⟩, RW.wrote_ok hokH.out, by show w10.heap[g]? = some (.cells (RW.byl (RW.wantK (S.pend ++ [(RW.fitO n x, RW.fitS n x)]) tn (RW.kpt ks) q D (j + 1))).toArray 5 (0, 0)); rw [RW.wantK_kept hSq.out.2.2.1 hyH.out, ← hsqH.out]; exact hg10H.out, hO10.out, hBw10.out⟩
                    case measure => simp [intOf]; omega
                  · have hsq := hide (show RW.fitS n x = sq by rw [hsqH.out, if_neg (fun h => htn h.2)])
                    rw [hsq.out] at e1' ⊢
                    go_upto_region 31 with fail
                    go_wp2_with (go_at_call 27; refine (hPu.out _ hg9.out).mono ?_; rintro e w10 ⟨⟨u10, rfl⟩, hg10, hc10⟩; have hg10H := hide hg10; have hc10H := hide hc10; clear hg10 hc10)
                    have hd10 := hide (hd9.out.chg hg9.out hgdb.out.1 hgdb.out.2 hc10H.out)
                    have hBw10 := hide (hBw9.out.trans (hc10H.out.below hgB.out (by rw [hBH.out]; exact hBH.out ▸ hBw9.out.size)))
                    have hO10 := hide (show IntsO w10 B (.slice a9 (nq + 1) c9) (RW.numK (RW.kpt ks) (j + 1)) from own_keep hO9H.out fun k hk => hc10H.out.block k (hO9H.out.lt k hk).2 (by
                      rcases hO9H.out.2 with ⟨e, _⟩ | ⟨g', cap', cur', e, _, hh, _⟩
                      · rw [e] at hk; cases hk
                      · rw [e] at hk; cases hk; exact blocks_ne hh hg9.out (by decide)))
                    go_roundw
                    case rel => exact ⟨j + 1, by go_num, by omega, S.wrote n x, pv7, hd10.out, ⟨rfl, rfl, by show (S.pend ++ [_]).length = _; rw [List.length_append, hSq.out.2.2.1]; rfl, hSq.out.2.2.2⟩, RW.wrote_ok hokH.out, by show w10.heap[g]? = some (.cells (RW.byl (RW.wantK (S.pend ++ [(RW.fitO n x, RW.fitS n x)]) tn (RW.kpt ks) q D (j + 1))).toArray 5 (0, 0)); rw [RW.wantK_kept hSq.out.2.2.1 hyH.out, ← hsqH.out]; exact hg10H.out, hO10.out, hBw10.out⟩
                    case measure => simp [intOf]; omega
                · have hsq := hide (show RW.fitS n x = sq by rw [hsqH.out, if_neg (fun h => hjq h.1)])
                  rw [hsq.out] at e1' ⊢
                  go_upto_region 31 with fail
                  go_wp2_with (go_at_call 27; refine (hPu.out _ hg9.out).mono ?_; rintro e w10 ⟨⟨u10, rfl⟩, hg10, hc10⟩; have hg10H := hide hg10; have hc10H := hide hc10; clear hg10 hc10)
                  have hd10 := hide (hd9.out.chg hg9.out hgdb.out.1 hgdb.out.2 hc10H.out)
                  have hBw10 := hide (hBw9.out.trans (hc10H.out.below hgB.out (by rw [hBH.out]; exact hBH.out ▸ hBw9.out.size)))
                  have hO10 := hide (show IntsO w10 B (.slice a9 (nq + 1) c9) (RW.numK (RW.kpt ks) (j + 1)) from own_keep hO9H.out fun k hk => hc10H.out.block k (hO9H.out.lt k hk).2 (by
                    rcases hO9H.out.2 with ⟨e, _⟩ | ⟨g', cap', cur', e, _, hh, _⟩
                    · rw [e] at hk; cases hk
                    · rw [e] at hk; cases hk; exact blocks_ne hh hg9.out (by decide)))
                  go_roundw
                  case rel => exact ⟨j + 1, by go_num, by omega, S.wrote n x, pv7, hd10.out, ⟨rfl, rfl, by show (S.pend ++ [_]).length = _; rw [List.length_append, hSq.out.2.2.1]; rfl, hSq.out.2.2.2⟩, RW.wrote_ok hokH.out, by show w10.heap[g]? = some (.cells (RW.byl (RW.wantK (S.pend ++ [(RW.fitO n x, RW.fitS n x)]) tn (RW.kpt ks) q D (j + 1))).toArray 5 (0, 0)); rw [RW.wantK_kept hSq.out.2.2.1 hyH.out, ← hsqH.out]; exact hg10H.out, hO10.out, hBw10.out⟩
                  case measure => simp [intOf]; omega
        · have hjM : j < M := of_decide_eq_true hcH.out.symm
          have hls : RW.lastK (RW.kpt ks) (j + 1) = if RW.kpt ks j then (j : Int) else q := by rw [RW.lastK, hqH.out]
          clear hcH
          have hlsH := hide hls
          clear hls
          by_cases hjk : j < mk
          · obtain ⟨y, hy⟩ : ∃ y, ks[j]? = some y := ⟨_, List.getElem?_eq_getElem (by rw [← hmkH.out]; exact hjk)⟩
            obtain ⟨bk, ok, rfl, hbk, hck⟩ := hakH.out.resolve_left (by rintro rfl; simp at hy)
            have hkc : wo.cell? ⟨bk, ok + j, none⟩ = some (.bool y) := (World.cell?_of_block (a := ⟨bk, ok + j, none⟩) (hBw6.out.block _ (by rw [hBH.out]; exact hbk))).trans (by have := hck j y hy 0 _ rfl; rw [Nat.mul_one, Nat.add_zero] at this; exact this)
            have hkj : RW.kpt ks j = y := by rw [RW.kpt, hy]; rfl
            have hls2 := hide (show RW.lastK (RW.kpt ks) (j + 1) = if y then (j : Int) else q by rw [hlsH.out, hkj])
            clear hbk hck hy hkj
            cases y
            · go_wp2
              go_roundw
              case rel => exact ⟨j + 1, by go_num, by rw [hls2.out]; rfl, by omega, hide trivial⟩
              case measure => simp [intOf]; omega
            · go_wp2
              go_roundw
              case rel => exact ⟨j + 1, by go_num, by rw [hls2.out]; rfl, by omega, hide trivial⟩
              case measure => simp [intOf]; omega
          · have hkj := hide (show RW.lastK (RW.kpt ks) (j + 1) = q by rw [hlsH.out, RW.kpt_out (by have := hmkH.out; omega)]; rfl)
            go_wp2
            go_roundw
            case rel => exact ⟨j + 1, by go_num, by rw [hkj.out], by omega, hide trivial⟩
            case measure => simp [intOf]; omega
end Go.Proofs.Ytehenjgggaedeaa

/-
  Package royaltylaw22: DiskAllSurvive: it returns true; only new memory is written.
-/
import Derived.Test.YtehenjgggaedeaaDk14P
namespace Go.Proofs.Ytehenjgggaedeaa
open Go.RowKit
attribute [local go_sem ↓] ldRow_wp
theorem IntsO.formN {W : World} {B k : Nat} {v : Value} {l : List Int} (h : IntsO W B v l) (hl : l.length = k) : ∃ a c, v = .slice a k c := by
  subst hl
  rcases h.2 with ⟨rfl, h0⟩ | ⟨g, cap, cur, rfl, _⟩
  · exact ⟨none, 0, by rw [h0]⟩
  · exact ⟨_, _, rfl⟩
theorem IntsB.ofOwn {W : World} {B : Nat} {v : Value} {l : List Int} (h : IntsO W B v l) : IntsB W.heap.size W v l := by
  have hr : RowV 1 (fun z => [Value.int .i64 z]) W v l := rowV_own (B := B) (e := 3) (n := l.length) (fun _ => rfl) (by decide) (by rw [intCells]; exact h)
  obtain ⟨a, c, e, _, hor⟩ := hr
  refine ⟨a, c, e, hor.imp id ?_⟩
  rintro ⟨b, o, e1, hb, hc⟩
  exact ⟨b, o, e1, hb, fun j x hx => by simpa using hc j x hx 0 _ rfl⟩
set_option maxRecDepth 10000 in
set_option maxHeartbeats 2000000 in
theorem allsurvive_any (z : Int) (hz : -9223372036854775808 ≤ z) (hz2 : z ≤ 9223372036854775807) (v : Value) (l : List RW.Wp) (hl : ∀ x ∈ l, (-9223372036854775808 ≤ x.1 ∧ x.1 ≤ 9223372036854775807) ∧ x.2.1.size ≤ 9223372036854775807) (w : World) (hv : RowV 3 RW.wpl w v l) :
    Calls Try.prog 9 #[.int .i64 z, v] w fun e w' => e = .returned (.bool true) ∧ Below w.heap.size w w' := by
  have hS := hide (sane_any w)
  have hP := hide (fun W => pick_any z 300 hz hz2 (by decide) (by decide) W)
  have hpb := RW.pickI_bd z 300 (by decide)
  obtain ⟨p, hp⟩ : ∃ p, p = RW.pickI z 300 := ⟨_, rfl⟩
  rw [← hp] at hP hpb
  obtain ⟨n, hn⟩ : ∃ n : Nat, (n : Int) = 1 + p := ⟨(1 + p).toNat, by omega⟩
  have hn1 : 1 ≤ n := by omega
  have hn2 : n ≤ 300 := by omega
  have hn3 : n ≤ 4194304 := by omega
  have hN := hide (fun W => new_any n hn1 hn3 W)
  have hnH := hide hn
  have hlH := hide hl
  obtain ⟨av, cv, rfl, hcv, hav⟩ := hv
  obtain ⟨m, hm⟩ : ∃ m, m = l.length := ⟨_, rfl⟩
  have hmH := hide hm
  have havH := hide hav
  rw [← hm] at hcv ⊢
  obtain ⟨B, hB⟩ : ∃ B, B = w.heap.size := ⟨_, rfl⟩
  have hBH := hide hB
  rw [← hB] at hS ⊢
  obtain ⟨hp0, hp1⟩ := hpb
  clear hz hz2 hp hn hl hm hav hB hcv
  go_enter Try.func9, Try.ntmps9
  go_upto_region 3 with (first
    | (go_at_call 12; refine hS.out.mono ?_; rintro e w1 ⟨rfl, hB1⟩; have hB1H := hide hB1; clear hB1)
    | (go_at_call 15; refine (hP.out _).mono ?_; rintro e w' ⟨rfl, rfl⟩))
  rw [← hnH.out]
  clear hp0 hp1 hP
  go_upto_region 6 with (go_at_call 13; refine (hN.out _).mono ?_; rintro e w2 ⟨b, rfl, ⟨db, vb, hd2⟩, hB2⟩; have hd2H := hide hd2; have hB2H := hide (hB1H.out.trans (hB2.mono (by rw [hBH.out]; exact hBH.out ▸ hB1H.out.size))); clear hd2 hB2)
  obtain ⟨B0, hB0⟩ : ∃ x, x = w1.heap.size := ⟨_, rfl⟩
  rw [← hB0] at hd2H
  have hB0l := hide (show B ≤ B0 by rw [hB0, hBH.out]; exact hBH.out ▸ hB1H.out.size)
  clear hB0 hN hS hB1H
  go_wp2
  go_loopw [8] (fun i wr => ∃ j : Nat, i = .int .i64 j ∧ j ≤ 60 ∧ Hid (∃ S pv, DiskAt wr B0 b n db vb pv S ∧ S.off = false ∧ S.left = 0 ∧ S.pend.length ≤ j ∧ (S.ok n ∧ RW.replay S.pend S.dur = S.vis) ∧ Below B w wr)) (fun i _ => 60 - (intOf i).toNat)
  case atStart => exact ⟨0, rfl, by decide, RW.dk0 n, _, hd2H.out, rfl, rfl, Nat.le_refl _, ⟨(fun y hy => by cases hy), rfl⟩, hB2H.out⟩
  case round =>
    obtain ⟨j, rfl, hj, hQ⟩ := hrel
    clear hd2H hB2H
    obtain ⟨c, hc⟩ : ∃ c : Bool, c = decide (j < m ∧ j < 60) := ⟨_, rfl⟩
    have hcH := hide hc
    clear hc
    obtain ⟨wo, hwo⟩ : ∃ wo, wo = wr := ⟨_, rfl⟩
    subst hwo
    go_upto_region 7 with fail
    go_cut [38] (fun s wx => s = .bool c ∧ wx = wo)
    case first =>
      by_cases h1 : j < m
      · by_cases h2 : j < 60
        · have h2i : (j : Int) < 60 := by omega
          go_wp2
          all_goals go_meet
          all_goals exact ⟨by rw [hcH.out, decide_eq_true (show j < m ∧ j < 60 from ⟨h1, h2⟩)] <;> rfl, rfl⟩
        · obtain rfl : j = 60 := by omega
          go_wp2
          all_goals go_meet
          all_goals exact ⟨by rw [hcH.out, decide_eq_false (show ¬ (60 < m ∧ 60 < 60) by omega)] <;> rfl, rfl⟩
      · go_wp2
        all_goals go_meet
        all_goals exact ⟨by rw [hcH.out, decide_eq_false (show ¬ (j < m ∧ j < 60) by omega)] <;> rfl, rfl⟩
    case rest =>
    obtain ⟨rfl, hwx⟩ := hcut
    have hwx' := hwx.symm
    subst hwx'
    cases c
    · obtain ⟨S, pv, hd, hoff, _, hpl, ⟨hok, hrp⟩, hBw⟩ := hQ.out
      have hdH := hide hd
      have hBwH := hide hBw
      have hokH := hide hok
      have hrpH := hide hrp
      have hRd := hide (read_ok B0 b n db vb pv S hoff wo hd)
      obtain ⟨k, hk⟩ : ∃ k, k = S.pend.length := ⟨_, rfl⟩
      have hkH := hide hk
      have hk60 : k ≤ 60 := by omega
      have hPd := hide (fun W (h : DiskAt W B0 b n db vb pv S) => pending_any W h)
      rw [← hk] at hPd
      clear hQ hBw hok hrp hd hpl hk
      go_upto_region 13 with (go_at_call 14; refine hRd.out.mono ?_; rintro e w' ⟨rfl, rfl⟩)
      obtain ⟨w7, hw7⟩ : ∃ x, x = wo := ⟨_, rfl⟩
      subst hw7
      obtain ⟨B7, hB7e⟩ : ∃ x, x = w7.heap.size := ⟨_, rfl⟩
      have hB7 := hide hB7e
      clear hB7e
      go_wp2
      go_loopw [12, 13] (fun z i wr => ∃ q : Nat, i = .int .i64 q ∧ q ≤ k ∧ Hid (IntsO wr B7 z (RW.rangeL q) ∧ Below B7 w7 wr)) (fun _ i _ => k - (intOf i).toNat)
      case atStart => exact ⟨0, rfl, Nat.zero_le _, World.ownsRow_nil _ _ _ _, Below.refl _ _⟩
      case round =>
        obtain ⟨q, rfl, hq, hR⟩ := hrel
        have hdr := hide (hdH.out.next (hB7.out ▸ hR.out.2))
        obtain ⟨az, cz, rfl⟩ := IntsO.formN hR.out.1 (RW.rangeL_len q)
        by_cases hqk : q < k
        · have hlit : RowV 1 (fun z => [Value.int .i64 z]) (wr.alloc (.cells (rowCells (fun z => [Value.int .i64 z]) [(q : Int)]).toArray 3)) (.slice (some ⟨wr.heap.size, 0, none⟩) 1 1) [(q : Int)] := rows_lit (k := 1) (enc := fun z : Int => [Value.int .i64 z]) wr 3 (fun _ => rfl) [(q : Int)]
          have hown : wr.ownsRow B7 3 1 (.slice az q cz) (RW.rangeL q).length (rowCells (fun z => [Value.int .i64 z]) (RW.rangeL q)) := by rw [intCells]; exact hR.out.1
          obtain ⟨v8, w8, hrun, hO8, hB8, _⟩ := run_app_rows (P := Try.prog) 37 Try.underlying37 int_info (by rfl) (by decide) (fun _ => rfl) (by intro x u hu; simp at hu; rw [hu]; rfl) (hown.alloc _) (by have := hR.out.2.size; have := hB7.out; simp; omega) hlit (by rw [RW.rangeL_len]; unfold maxLen; simp; omega) (by rw [RW.rangeL_len]; simp; omega)
          rw [← RW.rangeL_succ, intCells] at hO8
          have hO8H := hide hO8
          have hB8H := hide (hR.out.2.trans (((Below.refl B7 wr).alloc (by have := hR.out.2.size; have := hB7.out; omega) (.cells (rowCells (fun z => [Value.int .i64 z]) [(q : Int)]).toArray 3)).trans hB8))
          obtain ⟨a8, c8, hv8⟩ := IntsO.formN hO8 (RW.rangeL_len (q + 1))
          subst hv8
          clear hlit hown hO8 hB8 hR
          go_wp2_with (first
            | (go_at_call 17; refine (hPd.out _ hdr.out).mono ?_; rintro e w' ⟨rfl, rfl⟩)
            | (at_builtin; refine wpList_app_run rfl (.tmp 75) (.tmp 77) rfl rfl rfl hrun ?_))
          go_roundw
          case rel => exact ⟨q + 1, by go_num, by omega, hO8H.out, hB8H.out⟩
          case measure => simp [intOf]; omega
        · obtain rfl : q = k := by omega
          have hI := hide (IntsB.ofOwn hR.out.1)
          have hBr := hide (hBwH.out.trans (hR.out.2.mono (by rw [hB7.out, hBH.out]; exact hBH.out ▸ hBwH.out.size)))
          have hCr := hide (crash_any B0 b n db vb pv S _ (RW.rangeL q) (-1) wr hdr.out hokH.out (by rw [RW.rangeL_len]; omega) hI.out)
          have hcrE : S.crash (RW.rangeL q) (-1) = ⟨false, 0, S.vis, S.vis, []⟩ := by rw [hkH.out, RW.crash_all S (-1) (by decide), hrpH.out]
          rw [hcrE] at hCr
          have tok1 : True := trivial
          have tok2 : True := trivial
          clear hR
          go_wp2_with (first
            | (go_at_call 17; refine (hPd.out _ hdr.out).mono ?_; rintro e w' ⟨rfl, rfl⟩)
            | (go_at_call 25; have _t := tok1; refine hCr.out.mono ?_; rintro e w8 ⟨rfl, pv8, hd8, ht8, hB8⟩; have hd8H := hide hd8; have hBw8 := hide (hBr.out.trans (hB8.mono hB0l.out)); have hCr2 := hide (crash_any B0 b n db vb pv8 ⟨false, 0, S.vis, S.vis, []⟩ (.slice none 0 0) [] 0 w8 hd8 (fun y hy => by cases hy) (by decide) ⟨none, 0, rfl, .inl rfl⟩); rw [RW.crash_empty] at hCr2; clear hd8 ht8 hB8 tok1)
            | (go_at_call 14; have _t := tok2; refine (read_ok B0 b n db vb pv8 ⟨false, 0, S.vis, S.vis, []⟩ rfl w8 hd8H.out).mono ?_; rintro e w' ⟨rfl, rfl⟩; clear tok2)
            | (go_at_call 25; refine hCr2.out.mono ?_; rintro e w9 ⟨rfl, pv9, hd9, ht9, hB9⟩; have hd9H := hide hd9; have hBw9 := hide (hBw8.out.trans (hB9.mono hB0l.out)); clear hd9 ht9 hB9)
            | (go_at_call 14; refine (read_ok B0 b n db vb pv9 ⟨false, 0, S.vis, S.vis, []⟩ rfl w9 hd9H.out).mono ?_; rintro e w' ⟨rfl, rfl⟩))
          go_ret
          exact ⟨rfl, hBw9.out⟩
    · obtain ⟨hlt, hj60⟩ : j < m ∧ j < 60 := of_decide_eq_true hcH.out.symm
      obtain ⟨S, pv, hd, hoff, hleft, hpl, hgr, hBw⟩ := hQ.out
      have hdH := hide hd
      have hoffH := hide hoff
      have hleftH := hide hleft
      have hplH := hide hpl
      have hgrH := hide hgr
      have hBwH := hide hBw
      clear hQ hd hoff hleft hpl hgr hBw hcH
      obtain ⟨x, hx⟩ : ∃ x, l[j]? = some x := ⟨_, List.getElem?_eq_getElem (by rw [← hmH.out]; exact hlt)⟩
      have hxb := hlH.out x (List.mem_of_getElem? hx)
      obtain ⟨bq, oq, rfl, hbq, hcq⟩ := havH.out.resolve_left (by rintro rfl; simp at hx)
      have hrg : wo.rangeAt bq (oq + j * 3) (RW.wpl x) := fun i u hu => (World.cell?_of_block (a := ⟨bq, oq + j * 3 + i, none⟩) (hBwH.out.block _ (by rw [hBH.out]; exact hbq))).trans (hcq j x hx i u hu)
      have hps := wp_size x
      have hFi := hide (fun W => fits_any n (by omega) x hxb.1.1 hxb.1.2 hxb.2 W)
      have hfs := fit_size n x
      have hfle := hide (RW.fit_le n x)
      have hfO := hide (show (RW.fitL n x).toArray[0]? = some (.int .i64 (RW.fitO n x : Int)) from rfl)
      have hf1 := hide (show (RW.fitL n x).toArray[1]? = some (.string (RW.fitS n x)) from rfl)
      obtain ⟨sy, hsy⟩ : ∃ b : Bool, b = x.2.2 := ⟨_, rfl⟩
      have hf2 := hide (show (RW.fitL n x).toArray[2]? = some (.bool sy) by rw [hsy]; rfl)
      have hwrt := hide (RW.write_fit (S := S) (n := n) (x := x) hoffH.out hleftH.out)
      have hszS := hide (show (RW.fitS n x).size ≤ 9223372036854775807 by have := hfle.out; omega)
      have hso := hide (Nat.le_trans hdH.out.hb (Nat.le_of_lt hdH.out.lt.1))
      have hso0 := hide (show B ≤ wo.heap.size by rw [hBH.out]; exact hBH.out ▸ hBwH.out.size)
      clear hbq hcq hx hxb
      go_upto_region 10 with (first
        | (refine wpList_load_mid rfl 53 (.tmp 43) rfl bq (oq + j * 3) rfl (RW.wpl x) _ hrg Try.underlying53 rfl hps ?_)
        | (go_at_call 26; refine (hFi.out _).mono ?_; rintro e w4 ⟨rfl, hB4⟩; have hB4H := hide hB4; clear hB4)
        | (refine wpListStoreNew rfl 53 (.tmp 9) (.tmp 46) rfl (RW.fitL n x).toArray rfl rfl 53 _ hfs rfl (fit_one n x) ?_))
      obtain ⟨wb, hwb⟩ : ∃ k, k = w4.heap.size := ⟨_, rfl⟩
      have hA4 := hide (hB4H.out.alloc hB4H.out.size (.cells (RW.fitL n x).toArray 53))
      refine gen_w (fun W => W.heap[wb]? = some (.cells (RW.fitL n x).toArray 53 (0, 0)) ∧ Below wo.heap.size wo W) ⟨newAt hwb, hA4.out⟩ ?_
      rw [← hwb]
      clear hwb hA4 hB4H hrg hFi
      rintro w5 ⟨k1, k2⟩
      have e0 : w5.cell? ⟨wb, 0, none⟩ = some (.int .i64 (RW.fitO n x : Int)) := (cellAt k1 0).trans hfO.out
      have e1 : w5.cell? ⟨wb, 1, none⟩ = some (.string (RW.fitS n x)) := (cellAt k1 1).trans hf1.out
      have hw5 := hide k1
      have hB5 := hide k2
      have hd5 := hide (hdH.out.next k2)
      have hBw6 := hide (hBwH.out.trans (k2.mono hso0.out))
      clear k1 k2
      have hWr := hide (write_any B0 b n db vb pv S (RW.fitO n x : Int) (RW.fitS n x) w5 hd5.out (by have := hplH.out; omega) hszS.out)
      rw [hwrt.out] at hWr
      clear hB5 hdH hBwH
      clear hsy
      cases sy
      · go_wp2_with (go_at_call 21; refine hWr.out.mono ?_; rintro e w7 ⟨rfl, pv7, hd7, ht7, hB7⟩; have hd7H := hide hd7; have hw7 := hide (ht7.par hd5.out hw5.out); have e2 : w7.cell? ⟨wb, 2, none⟩ = some (.bool false) := (cellAt hw7.out 2).trans hf2.out; have hBw7 := hide (hBw6.out.trans (hB7.mono hB0l.out)); clear hd7 ht7 hB7)
        go_roundw
        case rel => exact ⟨j + 1, by go_num, by omega, (S.wrote n x), pv7, hd7H.out, rfl, rfl, by show (S.pend ++ [_]).length ≤ j + 1; rw [List.length_append]; have := hplH.out; simp; omega, ⟨RW.wrote_ok hgrH.out.1, by show RW.replay (S.pend ++ [(RW.fitO n x, RW.fitS n x)]) S.dur = RW.lay S.vis (RW.fitO n x) (RW.fitS n x).data.toList; rw [RW.replay_snoc, hgrH.out.2]⟩, hBw7.out⟩
        case measure => simp [intOf]; omega
      · go_wp2_with (first
          | (go_at_call 21; refine hWr.out.mono ?_; rintro e w7 ⟨rfl, pv7, hd7, ht7, hB7⟩; have hd7H := hide hd7; have hw7 := hide (ht7.par hd5.out hw5.out); have e2 : w7.cell? ⟨wb, 2, none⟩ = some (.bool true) := (cellAt hw7.out 2).trans hf2.out; have hBw7 := hide (hBw6.out.trans (hB7.mono hB0l.out)); clear hd7 ht7 hB7)
          | (go_at_call 23; refine (sync_ok B0 b n db vb pv7 (S.wrote n x) rfl w7 hd7H.out).mono ?_; rintro e w8 ⟨rfl, pv8, hd8, ht8, hB8⟩; have hd8H := hide hd8; have hBw8 := hide (hBw7.out.trans (hB8.mono hB0l.out)); clear hd8 ht8 hB8))
        go_roundw
        case rel => exact ⟨j + 1, by go_num, by omega, ⟨false, (S.wrote n x).left, (S.wrote n x).vis, (S.wrote n x).vis, []⟩, pv8, hd8H.out, rfl, rfl, Nat.zero_le _, ⟨(fun y hy => by cases hy), rfl⟩, hBw8.out⟩
        case measure => simp [intOf]; omega
end Go.Proofs.Ytehenjgggaedeaa

/-
  Package royaltylaw22: DiskReadsBack: it returns true; only new memory is written.
-/
import Derived.Test.YtehenjgggaedeaaDk11
namespace Go.Proofs.Ytehenjgggaedeaa
open Go.RowKit
attribute [local go_sem ↓] ldRow_wp
namespace RW
/-- a write that fits, on a disk that has power -/
def Dk.wrote (S : Dk) (n : Nat) (x : Wp) : Dk := ⟨false, 0, S.dur, lay S.vis (fitO n x) (fitS n x).data.toList, S.pend ++ [(fitO n x, fitS n x)]⟩
theorem write_fit {S : Dk} {n : Nat} {x : Wp} (h1 : S.off = false) (h2 : S.left = 0) : S.write n (fitO n x : Int) (fitS n x) = (0, S.wrote n x) := by
  rw [Dk.write, h1, if_neg Bool.false_ne_true, fit_ins, if_pos rfl, h2, Int.toNat_natCast]
  rfl
theorem sync_on {S : Dk} (h1 : S.off = false) : S.sync = (0, ⟨false, S.left, S.vis, S.vis, []⟩) := by
  rw [Dk.sync, h1, if_neg Bool.false_ne_true]
theorem read_all {S : Dk} {n : Nat} (h1 : S.off = false) (h2 : S.vis.length = n) : S.read n 0 (n : Int) = (strOf S.vis, 0) := by
  rw [Dk.read, h1, if_neg Bool.false_ne_true, if_pos ((insB_iff n 0 (n : Int)).2 ⟨by decide, by omega, by omega, by omega⟩), Int.toNat_natCast]
  show (strOf ((S.vis.drop 0).take n), (0 : Int)) = _
  rw [List.drop_zero, List.take_of_length_le (by omega)]
end RW
theorem sync_ok (B b n db vb : Nat) (pv : Value) (S : RW.Dk) (hoff : S.off = false) (w : World) (h : DiskAt w B b n db vb pv S) :
    Calls Try.prog 23 #[.pointer (some ⟨b, 0, none⟩)] w fun e w' => e = .returned (.int .i64 0) ∧ ∃ pv', DiskAt w' B b n db vb pv' ⟨false, S.left, S.vis, S.vis, []⟩ ∧ Tch b db vb w w' ∧ Below B w w' := by
  have h1 := sync_any B b n db vb pv S w h
  rw [RW.sync_on hoff] at h1
  exact h1
theorem read_ok (B b n db vb : Nat) (pv : Value) (S : RW.Dk) (hoff : S.off = false) (w : World) (h : DiskAt w B b n db vb pv S) :
    Calls Try.prog 14 #[.pointer (some ⟨b, 0, none⟩), .int .i64 0, .int .i64 (n : Int)] w fun e w' => e = .returned (.tuple #[.string (RW.strOf S.vis), .int .i64 0]) ∧ w = w' := by
  have h1 := read_any B b n db vb pv S 0 (n : Int) w h
  rw [RW.read_all hoff h.lv] at h1
  exact h1
theorem run_conv_all (w : World) (g n : Nat) (l : List UInt8) (hl : l.length = n) (hv : w.heap[g]? = some (.cells (RW.byl l).toArray 5 (0, 0))) :
    (convert 40 9 (.slice (some ⟨g, 0, none⟩) n n)).run Try.prog w = .ok (.string (RW.strOf l)) w := by
  have h1 := run_conv w g l hv 0 n n (by omega)
  rw [List.drop_zero, List.take_of_length_le (by omega)] at h1
  exact h1
theorem DiskAt.chg {W W' : World} {B b n db vb g : Nat} {pv : Value} {S : RW.Dk} {l : List UInt8} (h : DiskAt W B b n db vb pv S) (hg : W.heap[g]? = some (.cells (RW.byl l).toArray 5 (0, 0))) (h1 : g ≠ db) (h2 : g ≠ vb) (hc : Chg g W W') : DiskAt W' B b n db vb pv S :=
  h.keep fun k hk hq => hc.block k hk (by
    rcases hq with e | e | e | ⟨cur, fr, hh⟩
    · rw [e]; exact blocks_ne h.row hg (by decide)
    · rw [e]; exact Ne.symm h1
    · rw [e]; exact Ne.symm h2
    · exact blocks_ne hh hg (by decide))
theorem Tch.buf {W W' : World} {B b n db vb g : Nat} {pv : Value} {S : RW.Dk} {l : List UInt8} (h : DiskAt W B b n db vb pv S) (hT : Tch b db vb W W') (hg : W.heap[g]? = some (.cells (RW.byl l).toArray 5 (0, 0))) (h1 : g ≠ db) (h2 : g ≠ vb) : W'.heap[g]? = some (.cells (RW.byl l).toArray 5 (0, 0)) :=
  (hT.block g (Array.getElem?_eq_some_iff.1 hg).1 (blocks_ne hg h.row (by decide)) h1 h2 (fun cur fr hh => blocks_ne hg hh (by decide) rfl)).trans hg
theorem Tch.par {W W' : World} {B b n db vb g : Nat} {pv : Value} {S : RW.Dk} {cs : Array Value} (h : DiskAt W B b n db vb pv S) (hT : Tch b db vb W W') (hg : W.heap[g]? = some (.cells cs 53 (0, 0))) : W'.heap[g]? = some (.cells cs 53 (0, 0)) :=
  (hT.block g (Array.getElem?_eq_some_iff.1 hg).1 (blocks_ne hg h.row (by decide)) (blocks_ne hg h.dur (by decide)) (blocks_ne hg h.vis (by decide)) (fun cur fr hh => blocks_ne hg hh (by decide) rfl)).trans hg
set_option maxRecDepth 10000 in
set_option maxHeartbeats 2000000 in
theorem readsback_any (z : Int) (hz : -9223372036854775808 ≤ z) (hz2 : z ≤ 9223372036854775807) (v : Value) (l : List RW.Wp) (hl : ∀ x ∈ l, (-9223372036854775808 ≤ x.1 ∧ x.1 ≤ 9223372036854775807) ∧ x.2.1.size ≤ 9223372036854775807) (w : World) (hv : RowV 3 RW.wpl w v l) :
    Calls Try.prog 6 #[.int .i64 z, v] w fun e w' => e = .returned (.bool true) ∧ Below w.heap.size w w' := by
  have hS := hide (sane_any w)
  have hP := hide (fun W => pick_any z 300 hz hz2 (by decide) (by decide) W)
  have hpb := RW.pickI_bd z 300 (by decide)
  obtain ⟨p, hp⟩ : ∃ p, p = RW.pickI z 300 := ⟨_, rfl⟩
  rw [← hp] at hP hpb
  obtain ⟨n, hn⟩ : ∃ n : Nat, (n : Int) = 1 + p := ⟨(1 + p).toNat, by omega⟩
  have hn1 : 1 ≤ n := by omega
  have hn2 : n ≤ 300 := by omega
  have hn3 : n ≤ 4194304 := by omega
  have hN := hide (fun W => new_any n hn1 hn3 W)
  have hnH := hide hn
  have hlH := hide hl
  obtain ⟨av, cv, rfl, hcv, hav⟩ := hv
  obtain ⟨m, hm⟩ : ∃ m, m = l.length := ⟨_, rfl⟩
  have hmH := hide hm
  have havH := hide hav
  rw [← hm] at hcv ⊢
  obtain ⟨B, hB⟩ : ∃ B, B = w.heap.size := ⟨_, rfl⟩
  have hBH := hide hB
  rw [← hB] at hS ⊢
  obtain ⟨hp0, hp1⟩ := hpb
  clear hz hz2 hp hn hl hm hav hB hcv
  go_enter Try.func6, Try.ntmps6
  go_upto_region 3 with (first
    | (go_at_call 12; refine hS.out.mono ?_; rintro e w1 ⟨rfl, hB1⟩; have hB1H := hide hB1; clear hB1)
    | (go_at_call 15; refine (hP.out _).mono ?_; rintro e w' ⟨rfl, rfl⟩))
  rw [← hnH.out]
  clear hp0 hp1 hP
  go_upto_region 6 with (go_at_call 13; refine (hN.out _).mono ?_; rintro e w2 ⟨b, rfl, ⟨db, vb, hd2⟩, hB2⟩; have hd2H := hide hd2; have hB2H := hide (hB1H.out.trans (hB2.mono (by rw [hBH.out]; exact hBH.out ▸ hB1H.out.size))); clear hd2 hB2)
  have hmk := run_make_by n hn3 w2
  obtain ⟨B0, hB0⟩ : ∃ x, x = w1.heap.size := ⟨_, rfl⟩
  rw [← hB0] at hd2H
  have hB0l := hide (show B ≤ B0 by rw [hB0, hBH.out]; exact hBH.out ▸ hB1H.out.size)
  go_wp2
  obtain ⟨g, hg⟩ : ∃ x, x = w2.heap.size := ⟨_, rfl⟩
  have hA := hide ((Below.refl w2.heap.size w2).alloc (Nat.le_refl _) (.cells (RW.byl (List.replicate n 0)).toArray 5))
  have hgdb := hide (show g ≠ db ∧ g ≠ vb from ⟨by rw [hg]; exact Ne.symm (Nat.ne_of_lt hd2H.out.lt.2.1), by rw [hg]; exact Ne.symm (Nat.ne_of_lt hd2H.out.lt.2.2)⟩)
  refine gen_w (fun W => W.heap[g]? = some (.cells (RW.byl (List.replicate n 0)).toArray 5 (0, 0)) ∧ DiskAt W B0 b n db vb (.slice none 0 0) (RW.dk0 n) ∧ Below B w W) ⟨newAt hg, hd2H.out.next hA.out, hB2H.out.trans (hA.out.mono (by rw [hBH.out]; exact hBH.out ▸ hB2H.out.size))⟩ ?_
  rw [← hg]
  have hgB := hide (show B ≤ g by rw [hg, hBH.out]; exact hBH.out ▸ hB2H.out.size)
  clear hg hA hmk hd2H hB2H hB1H hB0 hN hS
  rintro w3 ⟨g1, g2, g3⟩
  have hg3 := hide g1
  have hd3 := hide g2
  have hB3 := hide g3
  clear g1 g2 g3
  go_loopw [9] (fun i wr => ∃ j : Nat, i = .int .i64 j ∧ j ≤ 60 ∧ Hid (∃ S pv, DiskAt wr B0 b n db vb pv S ∧ S.off = false ∧ S.left = 0 ∧ S.pend.length ≤ j ∧ wr.heap[g]? = some (.cells (RW.byl S.vis).toArray 5 (0, 0)) ∧ Below B w wr)) (fun i _ => 60 - (intOf i).toNat)
  case atStart => exact ⟨0, rfl, by decide, RW.dk0 n, _, hd3.out, rfl, rfl, Nat.le_refl _, hg3.out, hB3.out⟩
  case round =>
    obtain ⟨j, rfl, hj, hQ⟩ := hrel
    clear hg3 hd3 hB3
    obtain ⟨c, hc⟩ : ∃ c : Bool, c = decide (j < m ∧ j < 60) := ⟨_, rfl⟩
    have hcH := hide hc
    clear hc
    obtain ⟨wo, hwo⟩ : ∃ wo, wo = wr := ⟨_, rfl⟩
    subst hwo
    go_upto_region 8 with fail
    go_cut [33] (fun s wx => s = .bool c ∧ wx = wo)
    case first =>
      by_cases h1 : j < m
      · by_cases h2 : j < 60
        · have h2i : (j : Int) < 60 := by omega
          go_wp2
          all_goals go_meet
          all_goals exact ⟨by rw [hcH.out, decide_eq_true (show j < m ∧ j < 60 from ⟨h1, h2⟩)] <;> rfl, rfl⟩
        · obtain rfl : j = 60 := by omega
          go_wp2
          all_goals go_meet
          all_goals exact ⟨by rw [hcH.out, decide_eq_false (show ¬ (60 < m ∧ 60 < 60) by omega)] <;> rfl, rfl⟩
      · go_wp2
        all_goals go_meet
        all_goals exact ⟨by rw [hcH.out, decide_eq_false (show ¬ (j < m ∧ j < 60) by omega)] <;> rfl, rfl⟩
    case rest =>
    obtain ⟨rfl, hwx⟩ := hcut
    have hwx' := hwx.symm
    subst hwx'
    cases c
    · obtain ⟨S, pv, _, _, _, _, _, hBw⟩ := hQ.out
      have hBwH := hide hBw
      clear hQ hBw
      go_wp2
      go_ret
      exact ⟨rfl, hBwH.out⟩
    · obtain ⟨hlt, hj60⟩ : j < m ∧ j < 60 := of_decide_eq_true hcH.out.symm
      obtain ⟨S, pv, hd, hoff, hleft, hpl, hgr, hBw⟩ := hQ.out
      have hdH := hide hd
      have hoffH := hide hoff
      have hleftH := hide hleft
      have hplH := hide hpl
      have hgrH := hide hgr
      have hBwH := hide hBw
      clear hQ hd hoff hleft hpl hgr hBw hcH
      obtain ⟨x, hx⟩ : ∃ x, l[j]? = some x := ⟨_, List.getElem?_eq_getElem (by rw [← hmH.out]; exact hlt)⟩
      have hxb := hlH.out x (List.mem_of_getElem? hx)
      obtain ⟨bq, oq, rfl, hbq, hcq⟩ := havH.out.resolve_left (by rintro rfl; simp at hx)
      have hrg : wo.rangeAt bq (oq + j * 3) (RW.wpl x) := fun i u hu => (World.cell?_of_block (a := ⟨bq, oq + j * 3 + i, none⟩) (hBwH.out.block _ (by rw [hBH.out]; exact hbq))).trans (hcq j x hx i u hu)
      have hps := wp_size x
      have hFi := hide (fun W => fits_any n (by omega) x hxb.1.1 hxb.1.2 hxb.2 W)
      have hfs := fit_size n x
      have hPu := hide (fun W (h : W.heap[g]? = some (.cells (RW.byl S.vis).toArray 5 (0, 0))) => put_any g n S.vis (RW.fitO n x) (RW.fitS n x) hn3 hdH.out.lv (RW.fit_le n x) W h)
      have hfle := hide (RW.fit_le n x)
      have hfO := hide (show (RW.fitL n x).toArray[0]? = some (.int .i64 (RW.fitO n x : Int)) from rfl)
      have hf1 := hide (show (RW.fitL n x).toArray[1]? = some (.string (RW.fitS n x)) from rfl)
      obtain ⟨sy, hsy⟩ : ∃ b : Bool, b = x.2.2 := ⟨_, rfl⟩
      have hf2 := hide (show (RW.fitL n x).toArray[2]? = some (.bool sy) by rw [hsy]; rfl)
      have hwrt := hide (RW.write_fit (S := S) (n := n) (x := x) hoffH.out hleftH.out)
      have hszS := hide (show (RW.fitS n x).size ≤ 9223372036854775807 by have := hfle.out; omega)
      have hso := hide (Nat.le_trans hdH.out.hb (Nat.le_of_lt hdH.out.lt.1))
      have hso0 := hide (show B ≤ wo.heap.size by rw [hBH.out]; exact hBH.out ▸ hBwH.out.size)
      clear hbq hcq hx hxb
      go_upto_region 11 with (first
        | (refine wpList_load_mid rfl 53 (.tmp 38) rfl bq (oq + j * 3) rfl (RW.wpl x) _ hrg Try.underlying53 rfl hps ?_)
        | (go_at_call 26; refine (hFi.out _).mono ?_; rintro e w4 ⟨rfl, hB4⟩; have hB4H := hide hB4; clear hB4)
        | (refine wpListStoreNew rfl 53 (.tmp 10) (.tmp 41) rfl (RW.fitL n x).toArray rfl rfl 53 _ hfs rfl (fit_one n x) ?_))
      obtain ⟨wb, hwb⟩ : ∃ k, k = w4.heap.size := ⟨_, rfl⟩
      have hA4 := hide (hB4H.out.alloc hB4H.out.size (.cells (RW.fitL n x).toArray 53))
      refine gen_w (fun W => W.heap[wb]? = some (.cells (RW.fitL n x).toArray 53 (0, 0)) ∧ Below wo.heap.size wo W) ⟨newAt hwb, hA4.out⟩ ?_
      rw [← hwb]
      clear hwb hA4 hB4H hrg hFi
      rintro w5 ⟨k1, k2⟩
      have e0 : w5.cell? ⟨wb, 0, none⟩ = some (.int .i64 (RW.fitO n x : Int)) := (cellAt k1 0).trans hfO.out
      have e1 : w5.cell? ⟨wb, 1, none⟩ = some (.string (RW.fitS n x)) := (cellAt k1 1).trans hf1.out
      have hw5 := hide k1
      have hB5 := hide k2
      have hd5 := hide (hdH.out.next k2)
      have hg5 := hide ((k2.block g (Array.getElem?_eq_some_iff.1 hgrH.out).1).trans hgrH.out)
      have hwbg := hide (blocks_ne k1 hg5.out (by decide))
      clear k1 k2
      go_upto_region 12 with (go_at_call 27; refine (hPu.out _ hg5.out).mono ?_; rintro e w6 ⟨⟨u6, rfl⟩, hg6, hc6⟩; have hg6H := hide hg6; have hc6H := hide hc6; clear hg6 hc6)
      have hd6 := hide (hd5.out.chg hg5.out hgdb.out.1 hgdb.out.2 hc6H.out)
      have hw6 := hide ((hc6H.out.block wb (Array.getElem?_eq_some_iff.1 hw5.out).1 hwbg.out).trans hw5.out)
      have e0' : w6.cell? ⟨wb, 0, none⟩ = some (.int .i64 (RW.fitO n x : Int)) := (cellAt hw6.out 0).trans hfO.out
      have e1' : w6.cell? ⟨wb, 1, none⟩ = some (.string (RW.fitS n x)) := (cellAt hw6.out 1).trans hf1.out
      have hBw6 := hide ((hBwH.out.trans (hB5.out.mono hso0.out)).trans (hc6H.out.below hgB.out (Nat.le_trans hso0.out hB5.out.size)))
      have hWr := hide (write_any B0 b n db vb pv S (RW.fitO n x : Int) (RW.fitS n x) w6 hd6.out (by have := hplH.out; omega) hszS.out)
      rw [hwrt.out] at hWr
      clear hc6H hd5 hg5 hw5 hB5 e0 e1 hdH hgrH hBwH
      have he0 := e0'
      have he1 := e1'
      clear hsy e0' e1'
      cases sy
      · go_upto_region 14 with (go_at_call 21; refine hWr.out.mono ?_; rintro e w7 ⟨rfl, pv7, hd7, ht7, hB7⟩; have hd7H := hide hd7; have hg7 := hide (ht7.buf hd6.out hg6H.out hgdb.out.1 hgdb.out.2); have hw7 := hide (ht7.par hd6.out hw6.out); have e2 : w7.cell? ⟨wb, 2, none⟩ = some (.bool false) := (cellAt hw7.out 2).trans hf2.out; have hBw7 := hide (hBw6.out.trans (hB7.mono hB0l.out)); clear hd7 ht7 hB7)
        have hRd := hide (read_ok B0 b n db vb pv7 (S.wrote n x) rfl w7 hd7H.out)
        have hcv := run_conv_all w7 g n (S.wrote n x).vis hd7H.out.lv hg7.out
        clear e2
        go_wp2_with (go_at_call 14; refine hRd.out.mono ?_; rintro e w' ⟨rfl, rfl⟩)
        go_roundw
        case rel => exact ⟨j + 1, by go_num, by omega, (S.wrote n x), pv7, hd7H.out, rfl, rfl, by show (S.pend ++ [_]).length ≤ j + 1; rw [List.length_append]; have := hplH.out; simp; omega, hg7.out, hBw7.out⟩
        case measure => simp [intOf]; omega
      · go_upto_region 14 with (first
          | (go_at_call 21; refine hWr.out.mono ?_; rintro e w7 ⟨rfl, pv7, hd7, ht7, hB7⟩; have hd7H := hide hd7; have hg7 := hide (ht7.buf hd6.out hg6H.out hgdb.out.1 hgdb.out.2); have hw7 := hide (ht7.par hd6.out hw6.out); have e2 : w7.cell? ⟨wb, 2, none⟩ = some (.bool true) := (cellAt hw7.out 2).trans hf2.out; have hBw7 := hide (hBw6.out.trans (hB7.mono hB0l.out)); clear hd7 ht7 hB7)
          | (go_at_call 23; refine (sync_ok B0 b n db vb pv7 (S.wrote n x) rfl w7 hd7H.out).mono ?_; rintro e w8 ⟨rfl, pv8, hd8, ht8, hB8⟩; have hd8H := hide hd8; have hg8 := hide (ht8.buf hd7H.out hg7.out hgdb.out.1 hgdb.out.2); have hBw8 := hide (hBw7.out.trans (hB8.mono hB0l.out)); clear hd8 ht8 hB8))
        have hRd := hide (read_ok B0 b n db vb pv8 ⟨false, (S.wrote n x).left, (S.wrote n x).vis, (S.wrote n x).vis, []⟩ rfl w8 hd8H.out)
        have hcv := run_conv_all w8 g n (S.wrote n x).vis hd8H.out.lv hg8.out
        clear e2
        go_wp2_with (go_at_call 14; refine hRd.out.mono ?_; rintro e w' ⟨rfl, rfl⟩)
        go_roundw
        case rel => exact ⟨j + 1, by go_num, by omega, ⟨false, (S.wrote n x).left, (S.wrote n x).vis, (S.wrote n x).vis, []⟩, pv8, hd8H.out, rfl, rfl, Nat.zero_le _, hg8.out, hBw8.out⟩
        case measure => simp [intOf]; omega
end Go.Proofs.Ytehenjgggaedeaa

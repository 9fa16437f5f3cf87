/-
  Package royaltyref22: Read, Sync, Write: what they return, what they change.
-/
import Derived.Test.YtllbphanfahkkaaGreatDoorMY6
namespace Go.Proofs.YtllbphanfahkkaaGreatDoor
open Go.RowKit RG
theorem RefAt.sized {W : World} {B b n sb : Nat} {L : List UInt8} {pv : Value} {S : RW.Dk} (h : RefAt W B b n sb L pv S) (hok : S.ok n) : (RW.replay S.pend S.dur).length = n :=
  replay_len _ _ _ (by rw [← h.ld, List.length_take]; have := h.ln; omega) hok
set_option maxRecDepth 10000 in
set_option maxHeartbeats 1000000 in
theorem rread_any (B b n sb : Nat) (L : List UInt8) (pv : Value) (S : RW.Dk) (hn1 : 1 ≤ n) (hok : S.ok n) (hpl : S.pend.length ≤ 1000000) (hv : RW.replay S.pend S.dur = S.vis) (o k : Int) (ho : -9223372036854775808 ≤ o) (ho2 : o ≤ 9223372036854775807) (hk : -9223372036854775808 ≤ k) (hk2 : k ≤ 9223372036854775807) (w : World) (h : RefAt w B b n sb L pv S) :
    Calls Tryz.prog 92 #[.pointer (some ⟨b, 0, none⟩), .int .i64 o, .int .i64 k] w fun e w' => e = .returned (.tuple #[.string (S.read n o k).1, .int .i64 (S.read n o k).2]) ∧ Below w.heap.size w w' := by
  have hH := hide h
  obtain ⟨r, hr⟩ : ∃ r, r = S.read n o k := ⟨_, rfl⟩
  rw [← hr]
  rw [RW.Dk.read] at hr
  have c0 : w.cell? ⟨b, 0, none⟩ = some (.slice (some ⟨sb, 0, none⟩) n L.length) := cellAt h.row 0
  have c2 : w.cell? ⟨b, 2, none⟩ = some (.bool S.off) := cellAt h.row 2
  have hlv := h.sized hok
  rw [hv] at hlv
  cases hoff : S.off
  · rw [hoff, if_neg Bool.false_ne_true] at hr
    rw [hoff] at c2
    have hn3 := h.hn
    cases hin : RW.insB n o k
    · rw [hin, if_neg Bool.false_ne_true] at hr
      have hrH := hide hr
      have hinn := hide (show ¬ (0 ≤ o ∧ 0 ≤ k ∧ o ≤ n ∧ k ≤ n - o) from fun hh => by rw [(RW.insB_iff n o k).2 hh] at hin; cases hin)
      clear hr h hoff hin hok hv hlv
      go_enter Tryz.func92, Tryz.ntmps92
      go_upto_region 3 with fail
      go_cut [37] (fun s wx => s = .bool true ∧ wx = w)
      case first =>
        by_cases h1 : o < 0
        · go_wp2
          all_goals go_meet
          all_goals exact ⟨rfl, rfl⟩
        · by_cases h2 : k < 0
          · go_wp2
            all_goals go_meet
            all_goals exact ⟨rfl, rfl⟩
          · by_cases h3 : (n : Int) < o
            · go_wp2
              all_goals go_meet
              all_goals exact ⟨rfl, rfl⟩
            · have h4 : (n : Int) - o < k := by have := hinn.out; omega
              go_wp2
              all_goals go_meet
              all_goals exact ⟨rfl, rfl⟩
      case rest =>
      obtain ⟨rfl, hwx⟩ := hcut
      have hwx' := hwx.symm
      subst hwx'
      go_wp2
      exact bodyPost_ret (results_tmp2 rfl _ _ _) rfl ⟨by rw [hrH.out] <;> rfl, Below.refl _ _⟩
    · obtain ⟨i1, i2, i3, i4⟩ := (RW.insB_iff n o k).1 hin
      rw [hin, if_pos rfl] at hr
      obtain ⟨i, rfl⟩ : ∃ i : Nat, o = i := ⟨o.toNat, by omega⟩
      obtain ⟨j, rfl⟩ : ∃ j : Nat, k = j := ⟨k.toNat, by omega⟩
      rw [Int.toNat_natCast, Int.toNat_natCast] at hr
      have hi : i ≤ n := by omega
      have hij : j ≤ n - i := by omega
      obtain ⟨X, hX⟩ : ∃ X, X = RW.strOf ((S.vis.drop i).take j) := ⟨_, rfl⟩
      rw [← hX] at hr
      have hrH := hide hr
      have hXH := hide hX
      have h4 : ¬ (n : Int) - i < j := by omega
      have hVs := hide (visible_any B b n sb L pv S hn1 hok hpl w h)
      rw [hv] at hVs
      have hlvH := hide hlv
      clear hr h hoff hin hX hok hv hlv
      go_enter Tryz.func92, Tryz.ntmps92
      go_upto_region 5 with fail
      go_wp2_with (go_at_call 24; refine hVs.out.mono ?_; rintro e w3 ⟨g, L3, rfl, h1, h2, h3, h5, h6⟩; have h1H := hide h1; have h2H := hide h2; have h3H := hide h3; have h6H := hide h6; have hX3 : (L3.drop i).take j = (S.vis.drop i).take j := (by rw [← h2, List.drop_take, List.take_take, Nat.min_eq_left hij]); have hcA : L3.length = i → (convert 39 9 (.slice (some ⟨g, 0, none⟩) j 0)).run Tryz.prog w3 = .ok (.string X) w3 := (fun hh => by have := run_conv w3 g L3 h1 0 j 0 (by omega); rw [this]; rw [hXH.out, ← hX3]; rw [show j = 0 by omega]; simp); have hcB : (convert 39 9 (.slice (some ⟨g, i, none⟩) j (L3.length - i))).run Tryz.prog w3 = .ok (.string X) w3 := (by have := run_conv w3 g L3 h1 i j (L3.length - i) (by omega); rw [this]; rw [hXH.out, ← hX3]); clear h1 h2 h5 h6 hX3)
      all_goals exact bodyPost_ret (results_tmp2 rfl _ _ _) rfl ⟨by rw [hrH.out] <;> rfl, h6H.out⟩
  · rw [hoff, if_pos rfl] at hr
    rw [hoff] at c2
    have hrH := hide hr
    clear hr h hoff
    go_enter Tryz.func92, Tryz.ntmps92
    go_wp2
    exact bodyPost_ret (results_tmp2 rfl _ _ _) rfl ⟨by rw [hrH.out] <;> rfl, Below.refl _ _⟩
set_option maxRecDepth 10000 in
set_option maxHeartbeats 1000000 in
theorem rsync_any (B b n sb : Nat) (L : List UInt8) (pv : Value) (S : RW.Dk) (hn1 : 1 ≤ n) (hok : S.ok n) (hpl : S.pend.length ≤ 1000000) (hv : RW.replay S.pend S.dur = S.vis) (w : World) (h : RefAt w B b n sb L pv S) :
    Calls Tryz.prog 50 #[.pointer (some ⟨b, 0, none⟩)] w fun e w' => e = .returned (.int .i64 S.sync.1) ∧ ∃ sb' L' pv', RefAt w' B b n sb' L' pv' S.sync.2 ∧ RFr b sb w sb' w' ∧ Below B w w' := by
  have hH := hide h
  obtain ⟨r, hr⟩ : ∃ r, r = S.sync := ⟨_, rfl⟩
  rw [← hr]
  rw [RW.Dk.sync] at hr
  have c2 : w.cell? ⟨b, 2, none⟩ = some (.bool S.off) := cellAt h.row 2
  cases hoff : S.off
  · rw [hoff, if_neg Bool.false_ne_true] at hr
    rw [hoff] at c2
    have hrH := hide hr
    have hoffH := hide hoff
    have hVs := hide (visible_any B b n sb L pv S hn1 hok hpl w h)
    rw [hv] at hVs
    clear hr h hoff hok hv
    go_enter Tryz.func50, Tryz.ntmps50
    go_wp2_with (go_at_call 24; refine hVs.out.mono ?_; rintro e w3 ⟨g, L3, rfl, h1, h2, h3, h5, h6⟩; have h1H := hide h1; have h2H := hide h2; have h3H := hide h3; have h5H := hide h5; have h6H := hide h6; have hrow := hide ((h6.block b hH.out.lt.1).trans hH.out.row); have g0 : w3.cell? ⟨b, 0, none⟩ = some (.slice (some ⟨sb, 0, none⟩) n L.length) := cellAt hrow.out 0; have g1 : w3.cell? ⟨b, 1, none⟩ = some pv := cellAt hrow.out 1; have k0 : w3.frozen? ⟨b, 0, none⟩ = false := (by simp [World.frozen?, hrow.out]); have k1 : w3.frozen? ⟨b, 1, none⟩ = false := (by simp [World.frozen?, hrow.out]); clear h1 h2 h3 h5 h6)
    go_ret
    have hb0 : b < g := Nat.lt_of_lt_of_le hH.out.lt.1 h5H.out
    have hc : Chg b w3 ((w3.setCell ⟨b, 0, none⟩ (.slice (some ⟨g, 0, none⟩) n L3.length)).setCell ⟨b, 1, none⟩ (.slice none 0 0)) := ((Chg.refl b w3).set _).set _
    have hsz : b < w3.heap.size := (Array.getElem?_eq_some_iff.1 hrow.out).1
    refine ⟨by rw [hrH.out] <;> rfl, g, L3, .slice none 0 0, ?_, ⟨Nat.le_trans h6H.out.size hc.size, fun k hk hk1 hk2 _ => ⟨(hc.block k (Nat.lt_of_lt_of_le hk h6H.out.size) hk1).trans (h6H.out.block k hk), Nat.ne_of_lt (Nat.lt_of_lt_of_le hk h5H.out)⟩⟩, (h6H.out.mono (Nat.le_trans hH.out.hb (Nat.le_of_lt hH.out.lt.1))).trans (hc.below hH.out.hb (Nat.le_trans hH.out.hb (Nat.le_of_lt hsz)))⟩
    rw [hrH.out]
    refine ⟨(heap_setCell_same _ _ _ _ _ _ (heap_setCell_same _ _ _ _ _ _ hrow.out)).trans (by rw [hoffH.out]; rfl), (hc.block g (Array.getElem?_eq_some_iff.1 h1H.out).1 (Ne.symm (Nat.ne_of_lt hb0))).trans h1H.out, h2H.out, h3H.out, World.ownsRow_nil _ _ _ _, hH.out.hb, Nat.le_trans hH.out.hb (Nat.le_of_lt hb0), hH.out.hn, hH.out.lf⟩
  · rw [hoff, if_pos rfl] at hr
    rw [hoff] at c2
    have hrH := hide hr
    clear hr h hoff
    go_enter Tryz.func50, Tryz.ntmps50
    go_wp2
    go_ret
    exact ⟨by rw [hrH.out] <;> rfl, sb, L, pv, by rw [hrH.out]; exact hH.out, RFr.refl _ _ _, Below.refl _ _⟩
theorem change_info : (Tryz.prog.info? 111).map (fun i => (i.zero, i.size, i.bytes)) = some (some (.agg #[.int .i64 0, .string ⟨#[]⟩]), 2, 24) := by kernel_rfl
theorem RefAt.appd {W W' : World} {B b n sb : Nat} {L : List UInt8} {pv u : Value} {S : RW.Dk} {l : List (Nat × ByteArray)} {vis : List UInt8} (h : RefAt W B b n sb L pv S) (hg : W.grownBy W' pv.ownBlock) (ho : W'.ownsRow B 111 2 u l.length (rowCells RW.wrl l)) :
    RefAt (W'.setCell ⟨b, 1, none⟩ u) B b n sb L u ⟨S.off, S.left, S.dur, vis, l⟩ ∧ RFr b sb W sb (W'.setCell ⟨b, 1, none⟩ u) := by
  obtain ⟨a1, a2⟩ := h.apart
  have hr : W'.heap[b]? = _ := (hg.block b h.lt.1 fun e => (a2 b e.symm).1 rfl).trans h.row
  have hs : W'.heap[sb]? = _ := (hg.block sb h.lt.2 fun e => (a2 sb e.symm).2 rfl).trans h.sure
  refine ⟨⟨(heap_setCell_same _ _ _ _ _ _ hr).trans rfl, (Below.heap_setCell _ _ _ _ (Ne.symm a1)).trans hs, h.ld, h.ln, own_keep ho fun g hgb => Below.heap_setCell _ _ _ _ ?_, h.hb, h.hs, h.hn, h.lf⟩, ⟨by simp; exact hg.size, fun k hk h1 h2 h3 => ⟨(Below.heap_setCell _ _ _ _ h1).trans (hg.block k hk fun e => ?_), h2⟩⟩⟩
  · rcases ho.2 with ⟨rfl, _⟩ | ⟨g', cap, cur, rfl, _, hh, _⟩
    · cases hgb
    · cases hgb
      exact blocks_ne hh hr (by decide)
  · obtain ⟨c, f, hh⟩ := h.pblock e.symm
    exact h3 c f hh
set_option maxRecDepth 10000 in
set_option maxHeartbeats 1000000 in
theorem rwrite_any (B b n sb : Nat) (L : List UInt8) (pv : Value) (S : RW.Dk) (o : Int) (s : ByteArray) (ho : -9223372036854775808 ≤ o) (ho2 : o ≤ 9223372036854775807) (hs : s.size ≤ 9223372036854775807) (hpl : S.pend.length < 1000000) (w : World) (h : RefAt w B b n sb L pv S) :
    Calls Tryz.prog 17 #[.pointer (some ⟨b, 0, none⟩), .int .i64 o, .string s] w fun e w' => e = .returned (.int .i64 (S.write n o s).1) ∧ ∃ pv', RefAt w' B b n sb L pv' (S.write n o s).2 ∧ RFr b sb w sb w' ∧ Below B w w' := by
  have hH := hide h
  obtain ⟨r, hr⟩ : ∃ r, r = S.write n o s := ⟨_, rfl⟩
  rw [← hr]
  rw [RW.Dk.write] at hr
  have c0 : w.cell? ⟨b, 0, none⟩ = some (.slice (some ⟨sb, 0, none⟩) n L.length) := cellAt h.row 0
  have c2 : w.cell? ⟨b, 2, none⟩ = some (.bool S.off) := cellAt h.row 2
  have hn3 := h.hn
  cases hoff : S.off
  · rw [hoff, if_neg Bool.false_ne_true] at hr
    rw [hoff] at c2
    have hoffH := hide hoff
    cases hin : RW.insB n o (s.size : Int)
    · rw [hin, if_neg Bool.false_ne_true] at hr
      have hrH := hide hr
      have hinn := hide (show ¬ (0 ≤ o ∧ 0 ≤ (s.size : Int) ∧ o ≤ n ∧ (s.size : Int) ≤ n - o) from fun hh => by rw [(RW.insB_iff n o _).2 hh] at hin; cases hin)
      clear hr h hoff hin
      go_enter Tryz.func17, Tryz.ntmps17
      go_upto_region 3 with fail
      go_cut [33] (fun s wx => s = .bool true ∧ wx = w)
      case first =>
        by_cases h1 : o < 0
        · go_wp2
          all_goals go_meet
          all_goals exact ⟨rfl, rfl⟩
        · by_cases h3 : (n : Int) < o
          · go_wp2
            all_goals go_meet
            all_goals exact ⟨rfl, rfl⟩
          · have h4 : (n : Int) - o < s.size := by have := hinn.out; omega
            go_wp2
            all_goals go_meet
            all_goals exact ⟨rfl, rfl⟩
      case rest =>
      obtain ⟨rfl, hwx⟩ := hcut
      have hwx' := hwx.symm
      subst hwx'
      go_wp2
      go_ret
      exact ⟨by rw [hrH.out] <;> rfl, ⟨pv, by rw [hrH.out]; exact hH.out⟩, RFr.refl _ _ _, Below.refl _ _⟩
    · obtain ⟨i1, i2, i3, i4⟩ := (RW.insB_iff n o _).1 hin
      rw [hin, if_pos rfl] at hr
      obtain ⟨i, rfl⟩ : ∃ i : Nat, o = i := ⟨o.toNat, by omega⟩
      rw [Int.toNat_natCast] at hr
      have hi : i ≤ n := by omega
      have h4 : ¬ (n : Int) - i < s.size := by omega
      have hrH := hide hr
      obtain ⟨ap, cp, rfl⟩ := h.form
      obtain ⟨kp, hkp⟩ : ∃ k, k = S.pend.length := ⟨_, rfl⟩
      rw [← hkp] at hH
      have c1 : w.cell? ⟨b, 1, none⟩ = some (.slice ap kp cp) := by rw [hkp]; exact cellAt h.row 1
      have hlt := h.lt.1
      have hBs := hide (Nat.le_trans h.hb (Nat.le_of_lt h.lt.1))
      have hlit : RowV 2 RW.wrl (w.alloc (.cells (rowCells RW.wrl [(i, s)]).toArray 111)) (.slice (some ⟨w.heap.size, 0, none⟩) 1 1) [(i, s)] := rows_lit w 111 wrl_len [(i, s)]
      rw [show rowCells RW.wrl [(i, s)] = RW.wrl (i, s) by rw [rowCells, List.flatMap_cons, List.flatMap_nil, List.append_nil]] at hlit
      obtain ⟨v', W', hrun, h2, h3, hg4⟩ := run_app_rows (P := Tryz.prog) 65 Tryz.underlying65 change_info (by rfl) (by decide) wrl_len wrl_one (h.pend.alloc (.cells (RW.wrl (i, s)).toArray 111)) (by have := hBs.out; simp; omega) hlit (by unfold maxLen; simp; omega) (by simp; omega)
      obtain ⟨a, c, rfl⟩ : ∃ a c, v' = .slice a (S.pend ++ [(i, s)]).length c := by
        rcases h2.2 with ⟨rfl, h0⟩ | ⟨g, cap, cur, rfl, _⟩
        · exact ⟨none, 0, by rw [h0]⟩
        · exact ⟨_, _, rfl⟩
      have hA := (Below.refl w.heap.size w).alloc (Nat.le_refl _) (.cells (RW.wrl (i, s)).toArray 111)
      have hap := h.apart
      have hrow9 : W'.heap[b]? = _ := (hg4.block b (by simp; omega) (fun e => (hap.2 b e.symm).1 rfl)).trans ((hA.block b h.lt.1).trans h.row)
      have g1 : W'.cell? ⟨b, 1, none⟩ = some (.slice ap S.pend.length cp) := cellAt hrow9 1
      have k1 : W'.frozen? ⟨b, 1, none⟩ = false := by simp [World.frozen?, hrow9]
      have hfin := (h.next hA).appd (vis := RW.lay S.vis i s.data.toList) hg4 h2
      have hF := hide hfin.1
      have hFr := hide ((RFr.of_below (b := b) (sb := sb) hA).trans hfin.2)
      have hBl := hide (((hA.mono hBs.out).trans h3).setCell (p := ⟨b, 1, none⟩) h.hb (.slice a (S.pend ++ [(i, s)]).length c))
      rw [← hkp] at hrun
      obtain ⟨N, hN⟩ : ∃ N, N = (S.pend ++ [(i, s)]).length := ⟨_, rfl⟩
      rw [← hN] at hF hFr hBl hrun
      clear hN hr h hoff hin hlit h2 h3 hg4 hA hap hrow9 hfin hkp
      go_enter Tryz.func17, Tryz.ntmps17
      go_upto_region 6 with (at_builtin; refine wpList_app_run rfl (.tmp 38) (.tmp 42) rfl rfl rfl hrun ?_)
      obtain ⟨S1, hS1⟩ : ∃ S1 : RW.Dk, S1 = ⟨S.off, S.left, S.dur, RW.lay S.vis i s.data.toList, S.pend ++ [(i, s)]⟩ := ⟨_, rfl⟩
      rw [← hS1] at hF
      obtain ⟨u, hu⟩ : ∃ u, u = Value.slice a N c := ⟨_, rfl⟩
      rw [← hu] at hF hFr hBl
      rw [← hu]
      refine gen_w (fun W => RefAt W B b n sb L u S1 ∧ RFr b sb w sb W ∧ Below B w W) ⟨hF.out, hFr.out, hBl.out⟩ ?_
      clear hF hFr hBl hrun g1 k1 c0 c1 c2 hlt hBs
      rintro w3 ⟨f1, f2, f3⟩
      obtain ⟨y, hy⟩ : ∃ y : Nat, y = S1.left := ⟨_, rfl⟩
      have hyS : S.left = y := by rw [hy, hS1]
      have hy1 : (y : Int) ≤ 9223372036854775807 := hy ▸ f1.lf
      have d3 : w3.cell? ⟨b, 3, none⟩ = some (.int .i64 (y : Int)) := by rw [hy]; exact cellAt f1.row 3
      have d2 : w3.cell? ⟨b, 2, none⟩ = some (.bool S1.off) := cellAt f1.row 2
      have k3 : w3.frozen? ⟨b, 3, none⟩ = false := by simp [World.frozen?, f1.row]
      have k2 : w3.frozen? ⟨b, 2, none⟩ = false := by simp [World.frozen?, f1.row]
      have hR := hide f1
      have hRf := hide f2
      have hBw := hide f3
      have hS1H := hide hS1
      have hyH := hide hy
      have hr2 := hide (show r.2 = ⟨(RW.used false y).1, (RW.used false y).2, S1.dur, S1.vis, S1.pend⟩ by rw [hrH.out, ← hyS, hS1])
      have hr1 := hide (show r.1 = 0 by rw [hrH.out])
      have hoff1 := hide (show S1.off = false by rw [hS1]; exact hoffH.out)
      clear f1 f2 f3 hS1 hy hyS hrH hu
      by_cases hy0 : y = 0
      · subst hy0
        go_wp2
        go_ret
        refine ⟨by rw [hr1.out] <;> rfl, ⟨u, ?_⟩, hRf.out, hBw.out⟩
        rw [hr2.out]
        have e : (⟨false, 0, S1.dur, S1.vis, S1.pend⟩ : RW.Dk) = S1 := by
          have h1 := hyH.out
          have h2 := hoff1.out
          revert h1 h2
          cases S1
          rintro rfl rfl
          rfl
        exact e ▸ hR.out
      · by_cases hy2 : y = 1
        · subst hy2
          go_wp2
          go_ret
          obtain ⟨m1, m2, m3⟩ := hR.out.rowChg (off := true) (left := 0) (v := S1.vis) (W' := (w3.setCell ⟨b, 3, none⟩ (.int .i64 0)).setCell ⟨b, 2, none⟩ (.bool true)) ((heap_setCell_same _ _ _ _ _ _ (heap_setCell_same _ _ _ _ _ _ hR.out.row)).trans rfl) (((Chg.refl b w3).set _).set _) (by decide)
          refine ⟨by rw [hr1.out] <;> rfl, ⟨u, ?_⟩, hRf.out.trans m2, hBw.out.trans m3⟩
          rw [hr2.out]
          exact m1
        · obtain ⟨x, rfl⟩ : ∃ x, y = x + 2 := ⟨y - 2, by omega⟩
          obtain ⟨z, hz⟩ : ∃ z : Int, z = ((x + 2 : Nat) : Int) := ⟨_, rfl⟩
          rw [← hz] at d3 hy1
          have hz0 : 0 < z := by omega
          have hz1 : ¬ z - 1 = 0 := by omega
          have hzx := hide (show ((x + 1 : Nat) : Int) = z - 1 by omega)
          clear hz
          go_wp2
          go_ret
          obtain ⟨m1, m2, m3⟩ := hR.out.rowChg (off := false) (left := x + 1) (v := S1.vis) (W' := w3.setCell ⟨b, 3, none⟩ (.int .i64 (z - 1))) ((heap_setCell_same _ _ _ _ _ _ hR.out.row).trans (by rw [hzx.out, hoff1.out]; rfl)) ((Chg.refl b w3).set _) (by rw [hzx.out]; omega)
          refine ⟨by rw [hr1.out] <;> rfl, ⟨u, ?_⟩, hRf.out.trans m2, hBw.out.trans m3⟩
          rw [hr2.out]
          exact m1
  · rw [hoff, if_pos rfl] at hr
    rw [hoff] at c2
    have hrH := hide hr
    clear hr h hoff
    go_enter Tryz.func17, Tryz.ntmps17
    go_wp2
    go_ret
    exact ⟨by rw [hrH.out] <;> rfl, pv, by rw [hrH.out]; exact hH.out, RFr.refl _ _ _, Below.refl _ _⟩
end Go.Proofs.YtllbphanfahkkaaGreatDoor

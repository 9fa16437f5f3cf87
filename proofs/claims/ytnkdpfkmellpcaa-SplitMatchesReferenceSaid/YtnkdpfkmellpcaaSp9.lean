/-
  Package royaltyref12: Resolve: the shares that it returns; only new memory is written.
-/
import Derived.Test.YtnkdpfkmellpcaaSpO
namespace Go.Proofs.Ytnkdpfkmellpcaa
open Go.RowKit RG
theorem ok_snoc {l : List RW.Pt} {j : Nat} {x : RW.Pt} (h : l[j]? = some x) (hx : RW.cntB x.2 = true) : RW.okL (l.take (j + 1)) = RW.okL (l.take j) ++ [x] := by rw [RW.okL_take_succ h, hx]; rfl
theorem ok_same {l : List RW.Pt} {j : Nat} {x : RW.Pt} (h : l[j]? = some x) (hx : RW.cntB x.2 = false) : RW.okL (l.take (j + 1)) = RW.okL (l.take j) := by rw [RW.okL_take_succ h, hx]; simp
attribute [local go_sem ↓] ldRow_part
set_option maxRecDepth 10000 in
set_option maxHeartbeats 4000000 in
theorem rresolve_any (v : Value) (l : List RW.Pt) (hl : l.length ≤ 1000000) (w : World) (h : PartsV w v l) :
    Calls Try.prog 21 #[v] w fun e w' => (∃ v', e = .returned (.agg (RW.scl v' (RW.resolve l).2.1 (RW.resolve l).2.2)) ∧ OwnP w' w.heap.size v' (RW.resolve l).1) ∧ Below w.heap.size w w' := by
  obtain ⟨a, ca, rfl, hca, ha⟩ := h
  have haH := hide ha
  obtain ⟨r, hr⟩ : ∃ r, r = w.heap.size := ⟨_, rfl⟩
  obtain ⟨n, hn⟩ : ∃ n, n = l.length := ⟨_, rfl⟩
  rw [← hn] at hl ⊢
  have hnH := hide hn
  have hB0 := hide (show Below r w (w.alloc (.cells #[.slice none 0 0, .int .i64 0, .int .i64 0] 32)) by rw [hr]; exact (Below.refl _ w).alloc (Nat.le_refl _) _)
  have hr0 := hide (show (w.alloc (.cells #[.slice none 0 0, .int .i64 0, .int .i64 0] 32)).heap[r]? = some (.cells #[.slice none 0 0, .int .i64 0, .int .i64 0] 32 (0, 0)) from newAt hr)
  have hrH := hide hr
  clear ha hn hca hr
  go_enter Try.func21, Try.ntmps21
  go_upto_region 1 with fail
  refine gen_w (fun W => W.heap[r]? = some (.cells #[.slice none 0 0, .int .i64 0, .int .i64 0] 32 (0, 0)) ∧ Below r w W) ⟨hr0.out, hB0.out⟩ ?_
  rw [← hrH.out]
  rintro w1 ⟨hr1, hB1⟩
  have hr1H := hide hr1
  have hB1H := hide hB1
  have hw1 := hide (show r + 1 ≤ w1.heap.size from (Array.getElem?_eq_some_iff.1 hr1).1)
  clear hB0 hr0 hr1 hB1
  go_wp2
  go_loopw [3, 4, 5] (fun z t i wr => ∃ (j : Nat) (s : Int), t = .int .i64 s ∧ i = .int .i64 j ∧ j ≤ n ∧ Hid (s = RW.tot (RW.okL (l.take j))) ∧ Hid (OwnP wr (r + 1) z (RW.okL (l.take j)) ∧ Below (r + 1) w1 wr)) (fun _ _ i _ => n - (intOf i).toNat)
  case atStart => exact ⟨0, 0, rfl, rfl, Nat.zero_le _, rfl, World.ownsRow_nil _ _ _ _, Below.refl _ _⟩
  case round =>
    obtain ⟨j, s, rfl, rfl, hjn, hs, hP⟩ := hrel
    have hkl : (RW.okL (l.take j)).length ≤ n := Nat.le_trans (List.length_filter_le ..) (by rw [List.length_take]; omega)
    have hs0 : 0 ≤ s ∧ s ≤ 1000000 * (n : Int) := by
      rw [hs.out]
      exact ⟨RW.tot_nonneg (RW.okL_sound _), Int.le_trans (RW.tot_le (RW.okL_sound _)) (by omega)⟩
    by_cases hlt : j < n
    · obtain ⟨x, hx⟩ : ∃ x, l[j]? = some x := ⟨_, List.getElem?_eq_getElem (by rw [← hnH.out]; exact hlt)⟩
      obtain ⟨b, o, rfl, hb, hc⟩ := haH.out.resolve_left (by rintro rfl; have := hnH.out; simp at this; omega)
      have hBw : Below r w wr := hB1H.out.trans (hP.out.2.mono (Nat.le_succ _))
      have hrg : ∀ W, Below wr.heap.size wr W → W.rangeAt b (o + j * 2) (RW.pcl x) := fun W hW i u hu => by
        have hbr : b < r := by rw [hrH.out]; exact hb
        exact (World.cell?_of_block (a := ⟨b, o + j * 2 + i, none⟩) ((hW.block _ (Nat.lt_of_lt_of_le hbr (Nat.le_of_lt (by have := hP.out.2.size; have := hw1.out; omega)))).trans (hBw.block _ hbr))).trans (hc j x hx i u hu)
      have c1 : wr.cell? ⟨b, o + j * 2 + 1, none⟩ = some (.int .i64 x.2) := part_c1 (hrg wr (Below.refl _ _))
      have hC := hide (fun W => rcounts_any x.2 W)
      obtain ⟨q, hq⟩ : ∃ q, q = RW.cntB x.2 := ⟨_, rfl⟩
      have hqH := hide hq
      rw [← hq] at hC
      have hxH := hide hx
      have hrgH := hide hrg
      have hbH := hide (show b < r by rw [hrH.out]; exact hb)
      have hklH := hide (Nat.le_trans hkl hl)
      clear hx hb hc hq hrg hBw
      cases q
      · go_wp2_with (go_at_call 36; refine (hC.out _).mono ?_; rintro e w' ⟨rfl, rfl⟩)
        go_roundw
        case rel =>
          have e1 := ok_same hxH.out hqH.out.symm
          exact ⟨j + 1, s, rfl, by go_num, by omega, by rw [e1]; exact hs.out, by rw [e1]; exact hP.out.1, hP.out.2⟩
        case measure => simp [intOf]; omega
      · have hl1 := ldRow_mid (hrgH.out wr (Below.refl _ _)) Try.underlying39 rfl (part_size x)
        have hx1 := (RW.cntB_iff x.2).1 hqH.out.symm
        have hle := hide (Nat.le_trans hw1.out hP.out.2.size)
        have hbr : b < r + 1 := by
          rcases Nat.lt_or_ge b (r + 1) with h | h
          · exact h
          · exact absurd h (by have := hbH.out; omega)
        have hpl := pcl_len x
        clear hkl
        go_wp2_with (first
          | (go_at_call 36; refine (hC.out _).mono ?_; rintro e w' ⟨rfl, rfl⟩)
          | (at_builtin; refine wpList_app_part rfl (.tmp 21) (.tmp 26) rfl rfl hP.out.1 x rfl hle.out hklH.out ?_; intro z' w3 hO3 hB3; have c3 : w3.cell? ⟨b, o + j * 2 + 1, none⟩ = some (.int .i64 x.2) := (World.cell?_of_block (a := ⟨b, o + j * 2 + 1, none⟩) (hB3.block b hbr)).trans c1; have hO3H := hide hO3; have hB3H := hide hB3; clear hO3 hB3))
        go_roundw
        case rel =>
          have e1 := ok_snoc hxH.out hqH.out.symm
          exact ⟨j + 1, s + x.2, by go_num, by go_num, by omega, by rw [e1, RW.tot_append, ← hs.out]; simp [RW.tot]; trivial, by rw [e1]; exact hO3H.out, hP.out.2.trans hB3H.out⟩
        case measure => simp [intOf]; omega
    · obtain rfl : j = n := by omega
      have hkT : RW.okL (l.take j) = RW.okL l := by rw [List.take_of_length_le (by rw [← hnH.out]; exact Nat.le_refl _)]
      obtain ⟨k, hk⟩ : ∃ k, k = RW.okL l := ⟨_, rfl⟩
      have hst := hide (show s = RW.tot k by rw [hs.out, hkT, hk])
      have hO := hP.out.1
      rw [hkT, ← hk] at hO
      rw [hkT, ← hk] at hkl
      have hkS := hide (show RW.Sound k by rw [hk]; exact RW.okL_sound l)
      have hrw := (hP.out.2.block r (Nat.lt_succ_self _)).trans hr1H.out
      have hBw := hide (hB1H.out.trans (hP.out.2.mono (Nat.le_succ _)))
      have hkH := hide hk
      have hOH := hide hO
      have hle := hide (Nat.le_trans hw1.out hP.out.2.size)
      clear hkT hk hs hP hO haH hr1H hB1H hw1
      obtain ⟨a3, c3, rfl⟩ := hOH.out.form
      by_cases hov : s ≤ 1000000
      · have hres := hide (show RW.resolve l = (k, 0, 1000000 - s) by rw [RW.resolve_small (by rw [← hkH.out, ← hst.out]; exact hov), ← hkH.out, ← hst.out])
        have hi := shares_size (.slice a3 k.length c3) 0 (1000000 - s)
        have ho := shares_one (.slice a3 k.length c3) 0 (1000000 - s) rfl
        go_wp2_with (refine wpList_store_row rfl 32 (.tmp 2) (.tmp 40) rfl r (RW.scl (.slice a3 k.length c3) 0 (1000000 - s)) rfl rfl 32 _ hrw hi rfl ho ?_)
        refine bodyPost_ret (results_cell_row rfl _ _ r 32 (RW.scl (.slice a3 k.length c3) 0 (1000000 - s)) (0, 0) _ rfl (setRow_heap _ _ _ _ _ _ hrw) Try.underlying32 rfl hi) rfl ⟨⟨.slice a3 k.length c3, by rw [hres.out], ?_⟩, hrH.out ▸ belowSetRow hBw.out (Nat.le_refl _) _⟩
        rw [hres.out]
        exact own_base (own_setRow hOH.out r (Nat.lt_succ_self _) _) (by have := hrH.out; omega)
      · obtain ⟨bt, hbt⟩ : ∃ b, b = wr.heap.size := ⟨_, rfl⟩
        have hv3 := hide hOH.out.parts
        obtain ⟨wo, hwo⟩ : ∃ wo, wo = wr := ⟨_, rfl⟩
        subst hwo
        have hres := hide (show RW.resolve l = (RW.okL (RW.lessL (s - 1000000) k), 1000000 - RW.tot (RW.lessL (s - 1000000) k), 0) by rw [RW.resolve_big (by rw [← hkH.out, ← hst.out]; omega), ← hkH.out, ← hst.out])
        obtain ⟨ov, hov3⟩ : ∃ ov, ov = s - 1000000 := ⟨_, rfl⟩
        rw [← hov3] at hres
        have hovH := hide hov3
        have hov1 : 1 ≤ ov := by omega
        obtain ⟨kn, hkn⟩ : ∃ n, n = k.length := ⟨_, rfl⟩
        have hknH := hide hkn
        have hkn1 : kn ≤ 1000000 := by rw [hkn]; omega
        rw [← hkn] at hv3
        have hbtH := hide hbt
        go_upto_region 12 with fail
        rw [← hkn, ← hbtH.out]
        refine gen_w (fun W => W.heap[bt]? = some (.cells (RW.scl (.slice none 0 0) 1000000 0) 32 (0, 0)) ∧ Below bt wo W) ⟨newAt hbt, by rw [hbt]; exact (Below.refl _ _).alloc (Nat.le_refl _) _⟩ ?_
        rintro w4 ⟨hr4, hB4⟩
        have hr4H := hide hr4
        have hB4H := hide hB4
        clear hr4 hB4 hbt hkn hov3 hov hkl
        go_wp2
        go_loopw [7] (fun i wx => ∃ m : Nat, i = .int .i64 m ∧ m ≤ kn ∧ Hid (∃ vo c, wx.heap[bt]? = some (.cells (RW.scl vo c 0) 32 (0, 0)) ∧ OwnP wx (bt + 1) vo (RW.okL (RW.lessL ov (k.take m))) ∧ c = 1000000 - RW.tot (RW.lessL ov (k.take m)) ∧ Below bt wo wx)) (fun i _ => kn - (intOf i).toNat)
        case atStart => exact ⟨0, rfl, Nat.zero_le _, _, _, hr4H.out, World.ownsRow_nil _ _ _ _, rfl, hB4H.out⟩
        case round =>
          obtain ⟨m, rfl, hmk, hP⟩ := hrel
          obtain ⟨vo, c, hrb, hO, hc, hB⟩ := hP.out
          have hrbH := hide hrb
          have hcH := hide hc
          have hOoH := hide hO
          have hBH := hide hB
          clear hrb hO hc hB hP
          by_cases hlt : m < kn
          · obtain ⟨x, hx⟩ : ∃ x, k[m]? = some x := ⟨_, List.getElem?_eq_getElem (by rw [← hknH.out]; exact hlt)⟩
            obtain ⟨a', c', hv', _, hat⟩ := hv3.out
            injection hv' with e1 e2 e3
            subst e1 e3
            clear e2
            obtain ⟨b, o, rfl, hb, hc⟩ := hat.resolve_left (by rintro rfl; have := hknH.out; simp at this; omega)
            rw [← hbtH.out] at hb
            have hrg : ∀ W, Below bt wr W → W.rangeAt b (o + m * 2) (RW.pcl x) := fun W hW i u hu => (World.cell?_of_block (a := ⟨b, o + m * 2 + i, none⟩) ((hW.block _ hb).trans (hBH.out.block _ hb))).trans (hc m x hx i u hu)
            have c1 : wr.cell? ⟨b, o + m * 2 + 1, none⟩ = some (.int .i64 x.2) := part_c1 (hrg wr (Below.refl _ _))
            have hrgH := hide hrg
            have hx1 := hkS.out x (List.mem_of_getElem? hx)
            have hxH := hide hx
            clear hat hb hc hrg hx
            have hlk : RW.lessL ov (k.take (m + 1)) = RW.lessL ov (k.take m) ++ [(x.1, max (x.2 - ov) 0)] := by
              rw [List.take_add_one, hxH.out]
              simp [RW.lessL]
            by_cases hpos : s - x.2 < 1000000
            · have hg : (0 : Int) < 1000000 - (s - x.2) := by omega
              have hy := hide (show 1000000 - (s - x.2) = max (x.2 - ov) 0 by have := hovH.out; omega)
              have hok := hide (show RW.okL (RW.lessL ov (k.take (m + 1))) = RW.okL (RW.lessL ov (k.take m)) ++ [(x.1, 1000000 - (s - x.2))] by
                rw [hlk, hy.out]
                unfold RW.okL
                rw [List.filter_append]
                congr 1
                refine List.filter_eq_self.2 fun z hz => ?_
                rw [List.mem_singleton] at hz
                subst hz
                exact (RW.cntB_iff _).2 (by have := hovH.out; simp only; omega))
              have htot := hide (show RW.tot (RW.lessL ov (k.take (m + 1))) = RW.tot (RW.lessL ov (k.take m)) + (1000000 - (s - x.2)) by rw [hlk, RW.tot_append, hy.out]; simp [RW.tot])
              obtain ⟨y, hyy⟩ : ∃ y, y = 1000000 - (s - x.2) := ⟨_, rfl⟩
              rw [← hyy] at hg hok htot
              have hyb : y ≤ 1000000 := by have := hovH.out; omega
              have hyyH := hide hyy
              have hb0 := RW.tot_less_nonneg ov (k.take m)
              have hb1 := RW.less_min ov (by omega) (hkS.out.take m)
              have hb2 := RW.tot_take_le hkS.out m
              rw [← hknH.out] at hb2
              have hcc : c ≤ 1000000 ∧ 1000000 - 1000000 * (kn : Int) ≤ c := by have := hcH.out; omega
              clear hlk hyy hb0 hb1 hb2
              go_upto_region 17 with fail
              rw [← hyyH.out]
              obtain ⟨av, cv, hvo⟩ := hOoH.out.form
              obtain ⟨vn, hvn⟩ : ∃ n, n = (RW.okL (RW.lessL ov (k.take m))).length := ⟨_, rfl⟩
              rw [← hvn] at hvo
              subst hvo
              have hvl : (RW.okL (RW.lessL ov (k.take m))).length ≤ 1000000 := Nat.le_trans (List.length_filter_le ..) (by rw [RW.lessL, List.length_map, List.length_take]; omega)
              obtain ⟨wd, hwd⟩ : ∃ W, W = wr.drew := ⟨_, rfl⟩
              have hOd : OwnP wd (bt + 1) (.slice av vn cv) (RW.okL (RW.lessL ov (k.take m))) := by rw [hwd]; exact hOoH.out
              have hrd : wd.heap[bt]? = some (.cells (RW.scl (.slice av vn cv) c 0) 32 (0, 0)) := by rw [hwd]; exact hrbH.out
              have hBd : Below bt wr wd := by rw [hwd]; exact (Below.refl _ _).drew
              obtain ⟨v', w3, hrun, hO3, hB3⟩ := app_part hOd (Array.getElem?_eq_some_iff.1 hrd).1 hvl (x.1, y)
              obtain ⟨a5, c5, hv3'⟩ := hO3.form
              rw [List.length_append, ← hvn] at hv3'
              subst hv3'
              have hr3 := (hB3.block bt (Nat.lt_succ_self _)).trans hrd
              have hx0 : wd.cell? ⟨b, o + m * 2, none⟩ = some (.int .i64 x.1) := part_c0 (hrgH.out wd hBd)
              refine wp_region_staged (st4 wr.drew (wd.alloc (.cells (RW.pcl (x.1, y)).toArray 39)) w3 (w3.setCell ⟨bt, 0, none⟩ (.slice a5 (vn + 1) c5))) [9, 10, 12] (by kernel_rfl) (by kernel_rfl) (by rfl) rfl ?_
              rw [← hwd]
              refine st_val (.pointer (some ⟨bt, 0, none⟩)) (by rfl) (by rfl) (fun w => op_fa_s0 rfl rfl) ?_
              simp only [Act.put, List.setIfInBounds_toArray, List.set_cons_zero, List.set_cons_succ]
              refine st_op_in 0 1 (.slice av vn cv) (by rfl) (by rfl) (.inl rfl) (.inr (by decide +kernel)) (fun j w' _ hj hS => by rw [op_load_ps rfl rfl (by rcases st4_one hS hj with rfl | rfl; exact (cellAt hrd 0).trans rfl; exact (cellAt ((Below.heap_alloc _ _ _ (Array.getElem?_eq_some_iff.1 hrd).1).trans hrd) 0).trans rfl)]; exact ⟨rfl, hS⟩) ?_
              simp only [Act.put, List.setIfInBounds_toArray, List.set_cons_zero, List.set_cons_succ]
              refine st_val (.slice (some ⟨b, o, none⟩) kn c3) (by rfl) (by rfl) (fun w => op_mv rfl rfl) ?_
              simp only [Act.put, List.setIfInBounds_toArray, List.set_cons_zero, List.set_cons_succ]
              refine st_val (.int .i64 m) (by rfl) (by rfl) (fun w => op_mv rfl rfl) ?_
              simp only [Act.put, List.setIfInBounds_toArray, List.set_cons_zero, List.set_cons_succ]
              refine st_val (.pointer (some ⟨b, o + m * 2, none⟩)) (by rfl) (by rfl) (fun w => op_idx_p rfl rfl rfl hlt) ?_
              simp only [Act.put, List.setIfInBounds_toArray, List.set_cons_zero, List.set_cons_succ]
              refine st_val (.pointer (some ⟨b, o + m * 2, none⟩)) (by rfl) (by rfl) (fun w => op_fa_p0 rfl rfl) ?_
              simp only [Act.put, List.setIfInBounds_toArray, List.set_cons_zero, List.set_cons_succ]
              refine st_op_in 0 0 (.int .i64 x.1) (by rfl) (by rfl) (.inl rfl) (.inr (by decide +kernel)) (fun j w' _ hj hS => by obtain rfl : j = 0 := Nat.le_zero.1 hj; have hS' : w' = wd := hS; rw [op_load_int rfl rfl (by rw [hS']; exact hx0)]; exact ⟨rfl, hS⟩) ?_
              simp only [Act.put, List.setIfInBounds_toArray, List.set_cons_zero, List.set_cons_succ]
              refine st_val (.int .i64 y) (by rfl) (by rfl) (fun w => op_mv rfl rfl) ?_
              simp only [Act.put, List.setIfInBounds_toArray, List.set_cons_zero, List.set_cons_succ]
              refine st_val (.agg (RW.pcl (x.1, y)).toArray) (by rfl) (by rfl) (fun w => op_build_p (q := (x.1, y)) rfl rfl rfl) ?_
              simp only [Act.put, List.setIfInBounds_toArray, List.set_cons_zero, List.set_cons_succ]
              refine st_step 0 (.slice (some ⟨wd.heap.size, 0, none⟩) 1 1) (by rfl) (by rfl) (by decide +kernel) (fun w' hS => by have hS' : w' = wd := hS; subst hS'; rw [op_bs_p rfl rfl]; exact ⟨rfl, rfl⟩) ?_
              simp only [Act.put, List.setIfInBounds_toArray, List.set_cons_zero, List.set_cons_succ]
              refine st_step 1 (.slice a5 (vn + 1) c5) (by rfl) (by rfl) (by decide +kernel) (fun w' hS => by have hS' : w' = wd.alloc (.cells (RW.pcl (x.1, y)).toArray 39) := hS; subst hS'; rw [op_app rfl rfl rfl hrun]; exact ⟨rfl, rfl⟩) ?_
              simp only [Act.put, List.setIfInBounds_toArray, List.set_cons_zero, List.set_cons_succ]
              refine st_val (.pointer (some ⟨bt, 0, none⟩)) (by rfl) (by rfl) (fun w => op_fa_s0 rfl rfl) ?_
              simp only [Act.put, List.setIfInBounds_toArray, List.set_cons_zero, List.set_cons_succ]
              refine st_step 2 undef (by rfl) (by rfl) (by decide +kernel) (fun w' hS => by have hS' : w' = w3 := hS; subst hS'; rw [op_store_ps rfl rfl rfl ((cellAt hr3 0).trans rfl) (by simp [World.frozen?, hr3])]; exact ⟨rfl, rfl⟩) ?_
              simp only [Act.put]
              refine st_nil ?_
              intro W' hW'
              have hW' : W' = w3.setCell ⟨bt, 0, none⟩ (.slice a5 (vn + 1) c5) := hW'
              have hr5 : W'.heap[bt]? = some (.cells (RW.scl (.slice a5 (vn + 1) c5) c 0) 32 (0, 0)) := by rw [hW']; exact heap_setCell_same _ _ _ _ _ _ hr3
              have hO5 : OwnP W' (bt + 1) (.slice a5 (vn + 1) c5) (RW.okL (RW.lessL ov (k.take (m + 1)))) := by
                rw [hok.out, hW']
                refine ⟨hO3.1, hO3.2.imp id ?_⟩
                rintro ⟨g, cap, cur, h1, h2, h3, h4⟩
                exact ⟨g, cap, cur, h1, h2, (Below.heap_setCell _ _ _ _ (by show g ≠ bt; omega)).trans h3, h4⟩
              have hB5 : Below bt wr W' := by rw [hW']; exact (hBd.trans (hB3.mono (Nat.le_succ _))).setCell (p := ⟨bt, 0, none⟩) (Nat.le_refl _) _
              have hr5H := hide hr5
              have hO5H := hide hO5
              have hB5H := hide hB5
              have c51 : W'.cell? ⟨bt, 1, none⟩ = some (.int .i64 c) := (cellAt hr5 1).trans rfl
              have f51 : W'.frozen? ⟨bt, 1, none⟩ = false := by simp [World.frozen?, hr5]
              clear hW' hr5 hO5 hB5 hrun hO3 hB3 hOd hrd hBd hr3 hx0 hwd
              go_wp2
              go_roundw
              case rel =>
                refine ⟨m + 1, by go_num, by omega, .slice a5 (vn + 1) c5, c - y, heap_setCell_same _ _ _ _ _ _ hr5H.out, ?_, by rw [htot.out, hcH.out]; omega, hBH.out.trans (hB5H.out.setCell (p := ⟨bt, 1, none⟩) (Nat.le_refl _) _)⟩
                have hO5 := hO5H.out
                refine ⟨hO5.1, hO5.2.imp id ?_⟩
                rintro ⟨g, cap, cur, h1, h2, h3, h4⟩
                exact ⟨g, cap, cur, h1, h2, (Below.heap_setCell _ _ _ _ (by show g ≠ bt; omega)).trans h3, h4⟩
              case measure => simp [intOf]; omega
            · have hok := hide (show RW.okL (RW.lessL ov (k.take (m + 1))) = RW.okL (RW.lessL ov (k.take m)) by
                rw [hlk]
                unfold RW.okL
                rw [List.filter_append, List.filter_cons, if_neg (by rw [RW.cntB_iff]; have := hovH.out; simp only; omega)]
                simp)
              have htot := hide (show RW.tot (RW.lessL ov (k.take (m + 1))) = RW.tot (RW.lessL ov (k.take m)) by rw [hlk, RW.tot_append]; simp [RW.tot]; have := hovH.out; omega)
              clear hlk
              go_wp2
              go_roundw
              case rel => exact ⟨m + 1, by go_num, by omega, vo, c, hrbH.out, by rw [hok.out]; exact hOoH.out, by rw [htot.out]; exact hcH.out, hBH.out⟩
              case measure => simp [intOf]; omega
          · obtain rfl : m = kn := by omega
            have hkT : k.take m = k := List.take_of_length_le (by rw [← hknH.out]; exact Nat.le_refl _)
            have hrw4 := (hBH.out.block r (by have := hle.out; have := hbtH.out; omega)).trans hrw
            have hBw4 := hide (hBw.out.trans (hBH.out.mono (by have := hle.out; have := hbtH.out; omega)))
            rw [hkT] at hcH hOoH
            obtain ⟨av, cv, hvo⟩ := hOoH.out.form
            subst hvo
            have hrb := hrbH.out
            have hi := shares_size (.slice av (RW.okL (RW.lessL ov k)).length cv) c 0
            have ho := shares_one (.slice av (RW.okL (RW.lessL ov k)).length cv) c 0 rfl
            clear hkT
            go_wp2_with (first
              | (refine wpList_load_row rfl 32 (.tmp 6) rfl bt rfl 32 (RW.scl (.slice av (RW.okL (RW.lessL ov k)).length cv) c 0) (0, 0) _ hrb Try.underlying32 rfl hi ?_)
              | (refine wpList_store_row rfl 32 (.tmp 2) (.tmp 76) rfl r (RW.scl (.slice av (RW.okL (RW.lessL ov k)).length cv) c 0) rfl rfl 32 _ hrw4 hi rfl ho ?_))
            refine bodyPost_ret (results_cell_row rfl _ _ r 32 (RW.scl (.slice av (RW.okL (RW.lessL ov k)).length cv) c 0) (0, 0) _ rfl (setRow_heap _ _ _ _ _ _ hrw4) Try.underlying32 rfl hi) rfl ⟨⟨.slice av (RW.okL (RW.lessL ov k)).length cv, by rw [hres.out, ← hcH.out], ?_⟩, hrH.out ▸ belowSetRow hBw4.out (Nat.le_refl _) _⟩
            rw [hres.out]
            exact own_base (own_setRow hOoH.out r (by have := hle.out; have := hbtH.out; omega) _) (by have := hle.out; have := hbtH.out; have := hrH.out; omega)
end Go.Proofs.Ytnkdpfkmellpcaa

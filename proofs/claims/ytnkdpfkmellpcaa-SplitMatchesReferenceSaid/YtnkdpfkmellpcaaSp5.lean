/-
  Package split: Resolve: the shares that it returns; only new memory is written.
-/
import Derived.Test.YtnkdpfkmellpcaaSp4
namespace Go.Proofs.Ytnkdpfkmellpcaa
open Go.RowKit
/-- shares, as cells -/
def RW.scl (v : Value) (c u : Int) : Array Value := #[v, .int .i64 c, .int .i64 u]
theorem shares_size (v : Value) (c u : Int) : (Try.prog.info? 32).map (·.size) = some (RW.scl v c u).size := by kernel_rfl
theorem RowV.one {α : Type} {k : Nat} {enc : α → List Value} {W : World} {v : Value} {l : List α} (h : RowV k enc W v l) : v.oneCell' = true := by
  obtain ⟨a, cap, rfl, _⟩ := h
  rfl
theorem shares_one (v : Value) (c u : Int) (hv : v.oneCell' = true) : (RW.scl v c u).all (·.oneCell') = true := by
  simp [RW.scl, hv]
  exact ⟨rfl, rfl⟩
theorem delete_nil (w : World) :
    Calls Try.prog 34 #[.slice none 0 0, .func (.func 33) #[] #[]] w fun e w' => e = .returned (.slice none 0 0) ∧ w = w' := by
  have hI := hide (fun W => index_none none 0 W)
  go_enter Try.func34, Try.ntmps34
  go_wp2_with (go_at_call 40; refine (hI.out _).mono ?_; rintro e w1 ⟨rfl, rfl⟩)
  go_ret
  exact ⟨rfl, rfl⟩
theorem delete_own (B : Nat) (v : Value) (l : List RW.Pt) (hl : l.length ≤ 1000000) (w : World) (hB : B ≤ w.heap.size) (h : OwnP w B v l) :
    Calls Try.prog 34 #[v, .func (.func 33) #[] #[]] w fun e w' => ∃ v', e = .returned v' ∧ OwnP w' B v' (RW.okL l) ∧ Below B w w' := by
  have h' := h
  rcases h'.2 with ⟨rfl, h0⟩ | ⟨g, cap, cur, rfl, _⟩
  · obtain rfl := List.length_eq_zero_iff.1 h0
    refine (delete_nil w).mono ?_
    rintro e w' ⟨rfl, rfl⟩
    exact ⟨_, rfl, h, Below.refl _ _⟩
  · exact delete_parts B g cap l hl w hB h
namespace RW
theorem tot_take_succ {l : List Pt} {j : Nat} {x : Pt} (h : l[j]? = some x) : tot (l.take (j + 1)) = tot (l.take j) + x.2 := by
  rw [List.take_add_one, h, tot_append]
  simp [tot]
theorem Sound.take {l : List Pt} (h : Sound l) (j : Nat) : Sound (l.take j) := fun x hx => h x (List.mem_of_mem_take hx)
theorem tot_take_le {l : List Pt} (h : Sound l) (j : Nat) : 0 ≤ tot (l.take j) ∧ tot (l.take j) ≤ 1000000 * l.length := by
  refine ⟨tot_nonneg (h.take j), Int.le_trans (tot_le (h.take j)) ?_⟩
  have : (l.take j).length ≤ l.length := by rw [List.length_take]; omega
  omega
end RW
theorem OwnP.form {W : World} {B : Nat} {v : Value} {l : List RW.Pt} (h : OwnP W B v l) : ∃ a c, v = .slice a l.length c := by
  obtain ⟨a, c, rfl, _⟩ := h.parts
  exact ⟨a, c, rfl⟩
set_option maxRecDepth 10000 in
set_option maxHeartbeats 4000000 in
theorem resolve_any (v : Value) (l : List RW.Pt) (hl : l.length ≤ 1000000) (w : World) (h : PartsV w v l) :
    Calls Try.prog 20 #[v] w fun e w' => (∃ v', e = .returned (.agg (RW.scl v' (RW.resolve l).2.1 (RW.resolve l).2.2)) ∧ OwnP w' w.heap.size v' (RW.resolve l).1) ∧ Below w.heap.size w w' := by
  obtain ⟨r, hr⟩ : ∃ r, r = w.heap.size := ⟨_, rfl⟩
  have hW0 : (w.alloc (.cells #[.slice none 0 0, .int .i64 0, .int .i64 0] 32)).heap.size = r + 1 := by rw [hr]; simp
  have hC := hide (clone_parts v l hl (w.alloc (.cells #[.slice none 0 0, .int .i64 0, .int .i64 0] 32)) (h.next ((Below.refl _ w).alloc (Nat.le_refl _) _)))
  have hB0 := hide (show Below r w (w.alloc (.cells #[.slice none 0 0, .int .i64 0, .int .i64 0] 32)) by rw [hr]; exact (Below.refl _ w).alloc (Nat.le_refl _) _)
  have hr0 := hide (show (w.alloc (.cells #[.slice none 0 0, .int .i64 0, .int .i64 0] 32)).heap[r]? = some (.cells #[.slice none 0 0, .int .i64 0, .int .i64 0] 32 (0, 0)) from newAt hr)
  rw [hW0] at hC
  clear h hW0
  obtain ⟨k, hk⟩ : ∃ k, k = RW.okL l := ⟨_, rfl⟩
  have hkS := hide (show RW.Sound k by rw [hk]; exact RW.okL_sound l)
  have hkL := hide (show k.length ≤ l.length by rw [hk]; exact List.length_filter_le ..)
  have hkH := hide hk
  rw [← hr]
  go_enter Try.func20, Try.ntmps20
  go_upto_region 2 with fail
  rw [← hr]
  have hrH := hide hr
  clear hk hr
  go_upto_region 3 with (first
    | (go_at_call 35; refine hC.out.mono ?_; rintro e w1 ⟨v1, rfl, hO1, hB1⟩; have hO1H := hide hO1; have hB1H := hide hB1; clear hO1 hB1)
    | (go_at_call 34; refine (delete_own (r + 1) v1 l hl w1 (Nat.le_trans (by have := hrH.out; simp; omega) hB1H.out.size) hO1H.out).mono ?_; rintro e w2 ⟨v2, rfl, hO2, hB2⟩; have hO2H := hide hO2; have hB2H := hide hB2; clear hO2 hB2))
  have hrow := hO2H.out
  rw [← hkH.out] at hrow
  have hrowH := hide hrow
  have hpv := hide hrow.parts
  have hBr := hide (show Below r w w2 from hB0.out.trans ((hB1H.out.mono (by omega)).trans (hB2H.out.mono (by omega))))
  have hr2 := hide (show w2.heap[r]? = some (.cells #[.slice none 0 0, .int .i64 0, .int .i64 0] 32 (0, 0)) from (hB2H.out.block r (by omega)).trans ((hB1H.out.block r (by omega)).trans hr0.out))
  clear hrow hC hO1H hB1H hO2H hB2H hB0 hr0 hrH
  obtain ⟨a, cap, rfl, hcap, hat⟩ := hpv.out
  have hatH := hide hat
  clear hat
  obtain ⟨n, hn⟩ : ∃ n, n = k.length := ⟨_, rfl⟩
  have hnH := hide hn
  rw [← hn] at hcap ⊢
  have hn1 : n ≤ 1000000 := by rw [hn]; exact Nat.le_trans hkL.out hl
  clear hn
  go_wp2
  go_loopw [5, 17] (fun t i wr => ∃ (j : Nat) (s : Int), t = .int .i64 s ∧ i = .int .i64 j ∧ j ≤ n ∧ Hid (s = RW.tot (k.take j)) ∧ Below w2.heap.size w2 wr) (fun _ i _ => n - (intOf i).toNat)
  case atStart => exact ⟨0, 0, rfl, rfl, Nat.zero_le _, rfl, Below.refl _ _⟩
  case round =>
    obtain ⟨j, s, rfl, rfl, hjn, hs, hB⟩ := hrel
    have hBH := hide hB
    clear hB
    by_cases hlt : j < n
    · obtain ⟨x, hx⟩ : ∃ x, k[j]? = some x := ⟨_, List.getElem?_eq_getElem (by rw [← hnH.out]; exact hlt)⟩
      obtain ⟨b, o, rfl, hb, hc⟩ := hatH.out.resolve_left (by rintro rfl; have := hnH.out; simp at this; omega)
      have hrg : wr.rangeAt b (o + j * 2) (RW.pcl x) := fun i u hu => (World.cell?_of_block (a := ⟨b, o + j * 2 + i, none⟩) (hBH.out.block _ hb)).trans (hc j x hx i u hu)
      have hps := part_size x
      have hone := part_one x
      have hsum := hide (RW.tot_take_succ hx)
      have hs0 := RW.tot_take_le hkS.out j
      rw [← hs.out, ← hnH.out] at hs0
      have hx1 := hkS.out x (List.mem_of_getElem? hx)
      have hc1 : (wr.alloc (.cells (RW.pcl x).toArray 39)).cell? ⟨wr.heap.size, 1, none⟩ = some (.int .i64 x.2) := by rw [cellAt (newAt rfl)]; rfl
      have hB2 := hide (hBH.out.alloc hBH.out.size (.cells (RW.pcl x).toArray 39))
      clear hx hb hc
      go_wp2_with (first
        | (refine wpList_load_mid rfl 39 (.tmp 19) rfl b (o + j * 2) rfl (RW.pcl x) _ hrg Try.underlying39 rfl hps ?_)
        | (refine wpListStoreNew rfl 39 (.tmp 7) (.tmp 20) rfl (RW.pcl x).toArray rfl rfl 39 _ hps rfl hone ?_))
      go_roundw
      case rel => exact ⟨j + 1, s + x.2, by go_num, by go_num, by omega, by rw [hsum.out, ← hs.out]; exact rfl, hB2.out⟩
      case measure => simp [intOf]; omega
    · obtain rfl : j = n := by omega
      have hst : s = RW.tot k := by rw [hs.out, List.take_of_length_le (by rw [← hnH.out]; exact Nat.le_refl _)]
      have hs0 := RW.tot_take_le hkS.out j
      rw [← hs.out, ← hnH.out] at hs0
      have hstH := hide hst
      clear hst hs
      have hrw := (hBH.out.block r (Array.getElem?_eq_some_iff.1 hr2.out).1).trans hr2.out
      have hOw := hide (hrowH.out.next hBH.out)
      have hBw := hide (hBr.out.trans (hBH.out.mono (Nat.le_of_lt (Array.getElem?_eq_some_iff.1 hr2.out).1)))
      by_cases hov : s ≤ 1000000
      · have hres := hide (show RW.resolve l = (k, 0, -(s - 1000000)) by rw [RW.resolve, if_pos (by rw [← hkH.out, ← hstH.out]; omega), ← hkH.out, ← hstH.out])
        have hov2 : s - 1000000 ≤ 0 := by omega
        have hi := shares_size (.slice a j cap) 0 (-(s - 1000000))
        have ho := shares_one (.slice a j cap) 0 (-(s - 1000000)) rfl
        clear hov
        go_wp2_with (refine wpList_store_row rfl 32 (.tmp 2) (.tmp 33) rfl r (RW.scl (.slice a j cap) 0 (-(s - 1000000))) rfl rfl 32 _ hrw hi rfl ho ?_)
        refine bodyPost_ret (results_cell_row rfl _ _ r 32 (RW.scl (.slice a j cap) 0 (-(s - 1000000))) (0, 0) _ rfl (setRow_heap _ _ _ _ _ _ hrw) Try.underlying32 rfl hi) rfl ⟨⟨.slice a j cap, by rw [hres.out], ?_⟩, belowSetRow hBw.out (Nat.le_refl _) _⟩
        rw [hres.out, hnH.out]
        exact own_base (own_setRow hOw.out r (by omega) _) (Nat.le_succ _)
      · obtain ⟨g, rfl, hgB⟩ : ∃ g, a = some ⟨g, 0, none⟩ ∧ r + 1 ≤ g := by
          rcases hrowH.out.2 with ⟨_, h0⟩ | ⟨g, cap', cur, hv, hgB, _⟩
          · have : k = [] := List.length_eq_zero_iff.1 h0
            rw [this] at hstH
            have := hstH.out
            simp [RW.tot] at this
            omega
          · cases hv
            exact ⟨g, rfl, hgB⟩
        have hres := hide (show RW.resolve l = (RW.okL (RW.lessL (s - 1000000) k), 1000000 - RW.tot (RW.lessL (s - 1000000) k), 0) by rw [RW.resolve, if_neg (by rw [← hkH.out, ← hstH.out]; omega), ← hkH.out, ← hstH.out])
        have hov2 : ¬ s - 1000000 ≤ 0 := by omega
        obtain ⟨ov, hov3⟩ : ∃ ov, ov = s - 1000000 := ⟨_, rfl⟩
        rw [← hov3] at hres
        have hovH := hide hov3
        have hov4 : ov ≤ 1000000 * 1000000 := by omega
        have hov1 : 1 ≤ ov := by omega
        have hOw' := hOw.out
        rw [OwnP, hnH.out.symm] at hOw'
        have hOw'H := hide hOw'
        obtain ⟨wo, hwo⟩ : ∃ wo, wo = wr := ⟨_, rfl⟩
        subst hwo
        clear hov hov3 hatH hpv hOw'
        go_upto_region 13 with fail
        rw [← hovH.out]
        clear hov2
        go_wp2
        go_loopw [9, 36] (fun q i wx => ∃ (m : Nat) (u : Int) (ps : List RW.Pt), q = .int .i64 u ∧ i = .int .i64 m ∧ m ≤ j ∧ Hid (ps.length = j ∧ OwnP wx (r + 1) (.slice (some ⟨g, 0, none⟩) ps.length cap) ps ∧ ps.take m = RW.lessL ov (k.take m) ∧ ps.drop m = k.drop m ∧ u = 1000000 - RW.tot (RW.lessL ov (k.take m)) ∧ Below (r + 1) wo wx)) (fun _ i _ => j - (intOf i).toNat)
        case atStart => exact ⟨0, 1000000, k, rfl, rfl, Nat.zero_le _, hnH.out.symm, by rw [OwnP, hnH.out.symm]; exact hOw'H.out, rfl, rfl, rfl, Below.refl _ _⟩
        case round =>
          obtain ⟨m, u, ps, rfl, rfl, hmj, hP⟩ := hrel
          by_cases hlt : m < j
          · obtain ⟨x, hx⟩ : ∃ x, k[m]? = some x := ⟨_, List.getElem?_eq_getElem (by rw [← hnH.out]; exact hlt)⟩
            have hpx : ps[m]? = some x := by
              have := congrArg (·[0]?) hP.out.2.2.2.1
              simp only [List.getElem?_drop, Nat.add_zero] at this
              rw [this, hx]
            have hml : m < ps.length := by rw [hP.out.1]; exact hlt
            have c1 : wr.cell? ⟨g, m * 2 + 1, none⟩ = some (.int .i64 x.2) := own_range hP.out.2.1 (m * 2) (RW.pcl x) (fun i v hi => rowCells_get pcl_len ps m x hpx i v hi) 1 _ rfl
            have f1 : wr.frozen? ⟨g, m * 2 + 1, none⟩ = false := (own_there hP.out.2.1 (m * 2) 2 (by omega) 1 (by decide)).2
            have hx1 := hkS.out x (List.mem_of_getElem? hx)
            have hu := hP.out.2.2.2.2.1
            have hb0 := RW.tot_less_nonneg ov (k.take m)
            have hb1 := RW.less_min ov (by have := hovH.out; omega) (hkS.out.take m)
            have hb2 := RW.tot_take_le hkS.out m
            rw [← hnH.out] at hb2
            have hu1 : u ≤ 1000000 ∧ 1000000 - 1000000 * (j : Int) ≤ u := by have := hovH.out; omega
            have hset := hide (own_cell pcl_len (by decide) hP.out.2.1 m 1 x (x.1, max (x.2 - ov) 0) (.int .i64 (max (x.2 - ov) 0)) hpx (by decide) rfl)
            have hxH := hide hx
            have hpxH := hide hpx
            have hmlH := hide hml
            clear hx hpx hml hu hb0 hb1 hb2
            have hmx := hide (show (if x.2 - ov < 0 then 0 else x.2 - ov) = max (x.2 - ov) 0 by split <;> omega)
            go_wp2
            refine ⟨⟨m + 1, u - max (x.2 - ov) 0, ps.set m (x.1, max (x.2 - ov) 0), by rw [hmx.out], by go_num, by omega, ?_⟩, by simp [intOf]; omega⟩
            have hlen : (ps.set m (x.1, max (x.2 - ov) 0)).length = ps.length := List.length_set
            have hlk : RW.lessL ov (k.take (m + 1)) = RW.lessL ov (k.take m) ++ [(x.1, max (x.2 - ov) 0)] := by
              rw [List.take_add_one, hxH.out]
              simp [RW.lessL]
            refine ⟨hlen.trans hP.out.1, by rw [OwnP, hlen, hmx.out]; exact hset.out, ?_, ?_, ?_, hP.out.2.2.2.2.2.setCell (p := ⟨g, m * 2 + 1, none⟩) hgB _⟩
            · rw [List.take_add_one, List.getElem?_set_self hmlH.out, List.take_set, List.set_eq_of_length_le (by rw [List.length_take]; omega), hlk, hP.out.2.2.1]
              rfl
            · rw [List.drop_set_of_lt (by omega)]
              have := congrArg (List.drop 1) hP.out.2.2.2.1
              rwa [List.drop_drop, List.drop_drop] at this
            · rw [hlk, RW.tot_append, hP.out.2.2.2.2.1]
              simp [RW.tot]
              omega
          · obtain rfl : m = j := by omega
            have hps : ps = RW.lessL ov k := by
              have h1 := hP.out.2.2.1
              rwa [List.take_of_length_le (by rw [hP.out.1]; exact Nat.le_refl _), List.take_of_length_le (by rw [← hnH.out]; exact Nat.le_refl _)] at h1
            have huE := hide (show u = 1000000 - RW.tot (RW.lessL ov k) by rw [hP.out.2.2.2.2.1, List.take_of_length_le (by rw [← hnH.out]; exact Nat.le_refl _)])
            have hD := hide (delete_own (r + 1) (.slice (some ⟨g, 0, none⟩) ps.length cap) ps (by rw [hP.out.1]; exact hn1) wr (Nat.le_trans (by have := (Array.getElem?_eq_some_iff.1 hrw).1; omega) hP.out.2.2.2.2.2.size) hP.out.2.1)
            rw [hP.out.1] at hD
            have hrw2 := (hP.out.2.2.2.2.2.block r (by omega)).trans hrw
            have hBw2 := hide (hBw.out.trans (hP.out.2.2.2.2.2.mono (by omega)))
            have hpsH := hide hps
            clear hP hps hrw
            have hi := fun v => shares_size v u 0
            have ho := fun (v : Value) (hv : v.oneCell' = true) => shares_one v u 0 hv
            go_wp2_with (first
              | (go_at_call 34; refine hD.out.mono ?_; rintro e w4 ⟨v4, rfl, hO4, hB4⟩; obtain ⟨a4, c4, hv4⟩ := hO4.form; have hO4H := hide hO4; have hB4H := hide hB4; have hrw4 := (hB4.block r (Nat.lt_succ_self _)).trans hrw2; clear hO4 hB4; subst hv4)
              | (refine wpList_store_row rfl 32 (.tmp 2) (.tmp 63) rfl r (RW.scl (.slice a4 (RW.okL ps).length c4) u 0) rfl rfl 32 _ hrw4 (hi _) rfl (ho _ rfl) ?_))
            refine bodyPost_ret (results_cell_row rfl _ _ r 32 (RW.scl (.slice a4 (RW.okL ps).length c4) u 0) (0, 0) _ rfl (setRow_heap _ _ _ _ _ _ hrw4) Try.underlying32 rfl (hi _)) rfl ⟨⟨.slice a4 (RW.okL ps).length c4, by rw [hres.out, huE.out], ?_⟩, belowSetRow (hBw2.out.trans (hB4H.out.mono (by omega))) (Nat.le_refl _) _⟩
            rw [hres.out, ← hpsH.out]
            exact own_base (own_setRow hO4H.out r (by omega) _) (Nat.le_succ _)
end Go.Proofs.Ytnkdpfkmellpcaa

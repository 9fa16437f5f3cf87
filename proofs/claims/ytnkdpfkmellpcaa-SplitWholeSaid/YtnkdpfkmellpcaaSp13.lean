/-
  Package royaltylaw12: SplitWhole: it returns true; only new memory is written.
-/
import Derived.Test.YtnkdpfkmellpcaaSp12
namespace Go.Proofs.Ytnkdpfkmellpcaa
open Go.RowKit
attribute [local go_sem ↓] ldRow_shares
set_option maxRecDepth 10000 in
set_option maxHeartbeats 4000000 in
theorem splitwhole_any (v : Value) (l : List RW.Pt) (hl : l.length ≤ 9223372036854775807) (w : World) (hv : PartsV w v l) :
    Calls Try.prog 5 #[v] w fun e w' => e = .returned (.bool true) ∧ Below w.heap.size w w' := by
  obtain ⟨L, hL⟩ : ∃ L, L = l.take 30 := ⟨_, rfl⟩
  have hLn : L.length ≤ 30 := by rw [hL, List.length_take]; omega
  have hS := hide (sane_any w)
  have hP := hide (fun W (h : PartsV W v l) => parts_any v l hl W h)
  rw [← hL] at hP
  have hvH := hide hv
  clear hv hL hl
  go_enter Try.func5, Try.ntmps5
  go_upto_region 3 with (first
    | (go_at_call 11; refine hS.out.mono ?_; rintro e w1 ⟨rfl, hB1⟩; have hB1H := hide hB1; clear hB1)
    | (go_at_call 19; refine (hP.out _ (hvH.out.next hB1H.out)).mono ?_; rintro e w2 ⟨⟨v2, rfl, hv2⟩, hB2⟩; have hv2H := hide hv2.parts; have hB2H := hide (hB1H.out.trans (hB2.mono hB1H.out.size)); clear hv2 hB2))
  obtain ⟨a, ca, rfl, hca, ha⟩ := hv2H.out
  have haH := hide ha
  obtain ⟨n, hn⟩ : ∃ n, n = L.length := ⟨_, rfl⟩
  rw [← hn] at hLn hca ⊢
  have hnH := hide hn
  clear hn ha hP hS hB1H
  go_wp2
  go_loop [4, 5] (fun q i => ∃ (j : Nat) (s : Int), q = .int .i64 s ∧ i = .int .i64 j ∧ j ≤ n ∧ Hid (s = RW.tot (RW.okL (L.take j)))) (fun _ i => n - (intOf i).toNat)
  case atStart => exact ⟨0, 0, rfl, rfl, Nat.zero_le _, rfl⟩
  case round =>
    obtain ⟨j, s, rfl, rfl, hjn, hs⟩ := hrel
    have hs0 : 0 ≤ s ∧ s ≤ 1000000 * (n : Int) := by
      have h1 : (RW.okL (L.take j)).length ≤ n := Nat.le_trans (List.length_filter_le ..) (by rw [List.length_take, ← hnH.out]; omega)
      rw [hs.out]
      exact ⟨RW.tot_nonneg (RW.okL_sound _), Int.le_trans (RW.tot_le (RW.okL_sound _)) (by omega)⟩
    by_cases hlt : j < n
    · obtain ⟨x, hx⟩ : ∃ x, L[j]? = some x := ⟨_, List.getElem?_eq_getElem (by rw [← hnH.out]; exact hlt)⟩
      obtain ⟨b, o, rfl, hb, hc⟩ := haH.out.resolve_left (by rintro rfl; have := hnH.out; simp at this; omega)
      have c1 : w2.cell? ⟨b, o + j * 2 + 1, none⟩ = some (.int .i64 x.2) := part_c1 (hc j x hx)
      have hxH := hide hx
      clear hb hc hx
      by_cases h1 : 1 ≤ x.2
      · by_cases h2 : x.2 ≤ 1000000
        · have e1 := hide (ok_snoc hxH.out ((RW.cntB_iff _).2 ⟨h1, h2⟩))
          go_wp2
          go_round
          case rel => exact ⟨j + 1, s + x.2, by go_num, by go_num, by omega, by rw [e1.out, RW.tot_append, ← hs.out]; simp [RW.tot]; trivial⟩
          case measure => simp [intOf]; omega
        · have e1 := hide (ok_same hxH.out (Bool.eq_false_iff.2 fun h => h2 ((RW.cntB_iff _).1 h).2))
          go_wp2
          go_round
          case rel => exact ⟨j + 1, s, rfl, by go_num, by omega, by rw [e1.out]; exact hs.out⟩
          case measure => simp [intOf]; omega
      · have e1 := hide (ok_same hxH.out (Bool.eq_false_iff.2 fun h => h1 ((RW.cntB_iff _).1 h).1))
        go_wp2
        go_round
        case rel => exact ⟨j + 1, s, rfl, by go_num, by omega, by rw [e1.out]; exact hs.out⟩
        case measure => simp [intOf]; omega
    · obtain rfl : j = n := by omega
      have hsE := hide (show s = RW.tot (RW.okL L) by rw [hs.out, List.take_of_length_le (by rw [← hnH.out]; exact Nat.le_refl _)])
      have hR := hide (resolve_any (.slice a j ca) L (by rw [← hnH.out]; omega) w2 (by rw [hnH.out] at hca ⊢; exact ⟨a, ca, rfl, hca, haH.out⟩))
      obtain ⟨R, hRe⟩ : ∃ R, R = RW.resolve L := ⟨_, rfl⟩
      have hRs := hide (show RW.Sound R.1 by rw [hRe]; exact RW.resolve_sound L)
      have hRl := hide (show R.1.length ≤ 1000000 by
        rw [hRe, RW.resolve]
        split
        · exact Nat.le_trans (List.length_filter_le ..) (by rw [← hnH.out]; omega)
        · refine Nat.le_trans (List.length_filter_le ..) ?_
          rw [RW.lessL, List.length_map]
          exact Nat.le_trans (List.length_filter_le ..) (by rw [← hnH.out]; omega))
      have hRw := hide (show RW.wholeB (R.1, R.2.1, R.2.2) = true by rw [hRe]; exact RW.resolve_whole L)
      have e1 := RW.resolve_cont L
      have e2 := RW.resolve_uncl L
      rw [← hRe] at hR e1 e2
      rw [← hsE.out] at e1 e2
      obtain ⟨R1, Rc, Ru⟩ := R
      dsimp only at hR hRs hRl hRw e1 e2
      have e1' : decide (0 < Rc) = decide (1000000 < s) := e1
      have e2' : decide (0 < Ru) = decide (s < 1000000) := e2
      clear hs hRe e1 e2
      go_upto_region 10 with (first
        | (go_at_call 20; refine Calls.mono hR.out ?_; rintro e w4 ⟨⟨v4, rfl, hv4⟩, hB4⟩; have hv4H := hide hv4.parts; have hB4H := hide (hB2H.out.trans (hB4.mono hB2H.out.size)); clear hv4 hB4)
        | (refine wpListStoreNew rfl 32 (.tmp 6) (.tmp 38) rfl (RW.scl v4 Rc Ru) rfl rfl 32 _ (shares_size _ _ _) rfl (shares_one _ _ _ hv4H.out.one) ?_))
      obtain ⟨b4, hb4⟩ : ∃ b, b = w4.heap.size := ⟨_, rfl⟩
      have hBa := hide (hB4H.out.alloc hB4H.out.size (.cells (RW.scl v4 Rc Ru) 32))
      refine gen_w (fun W => ShAt W b4 v4 (R1, Rc, Ru) ∧ Below w.heap.size w W) ⟨by rw [hb4]; exact ShAt.new (s := (R1, Rc, Ru)) hv4H.out, hBa.out⟩ ?_
      rw [← hb4]
      clear hb4 hBa hv4H hB4H hR
      rintro w5 ⟨h5, hB5⟩
      have hW := hide (whole_any v4 R1 Rc Ru hRs.out hRl.out hRw.out w5 h5.parts)
      have l5 := h5.ld
      have h5H := hide h5
      have hB5H := hide hB5
      dsimp only at l5
      clear h5 hB5
      go_wp2_with (go_at_call 23; refine Calls.mono hW.out ?_; rintro e w6 ⟨rfl, hB6⟩; have h6 := h5H.out.next hB6; have c1 := (cellAt h6.row 1).trans (rfl : _ = some (Value.int .i64 Rc)); have c2 := (cellAt h6.row 2).trans (rfl : _ = some (Value.int .i64 Ru)); have hB6H := hide (hB5H.out.trans (hB6.mono hB5H.out.size)); clear hB6 h6)
      go_ret
      exact ⟨rfl, hB6H.out⟩
end Go.Proofs.Ytnkdpfkmellpcaa

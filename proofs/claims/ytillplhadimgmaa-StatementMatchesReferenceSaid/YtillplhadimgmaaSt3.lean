/-
  The reference's Total: what it returns; only new memory is written.
-/
import Derived.Test.YtillplhadimgmaaSt2
namespace Go.Proofs.Ytillplhadimgmaa
open Go.RowKit
set_option maxRecDepth 10000 in
set_option maxHeartbeats 2000000 in
theorem rtotal_any (h c : Int) (v : Value) (l : List RW.Ln) (hl : l.length ≤ 1300) (w : World) (hv : LnsV w v l) :
    Calls Try.prog 16 #[.agg #[.int .i64 h, .int .i64 c, v]] w fun e w' => e = .returned (.int .i64 (RW.tot l)) ∧ Below w.heap.size w w' := by
  obtain ⟨a, ca, rfl, hca, ha⟩ := hv
  obtain ⟨n, hn⟩ : ∃ n, n = l.length := ⟨_, rfl⟩
  obtain ⟨B, hBe⟩ : ∃ B, B = w.heap.size := ⟨_, rfl⟩
  rw [← hn] at hl ⊢
  have hnH := hide hn
  have haH := hide ha
  have hBH := hide hBe
  have hB0 := hide (Nat.le_of_eq hBe)
  have hA0 := hide (alloc_bel (Below.refl w.heap.size w) (Nat.le_refl _) (.cells #[.int .i64 h, .int .i64 c, .slice a n ca] 39))
  have hs0 := hide (alloc_at1 w (.cells #[.int .i64 h, .int .i64 c, .slice a n ca] 39))
  rw [← hBe] at hA0 hs0 ⊢
  clear ha hn hca
  go_enter Try.func16, Try.ntmps16
  go_wp2
  rw [← hBe]
  clear hBe
  go_loopw [3, 4] (fun nv i wr => ∃ (j : Nat) (z : Int), nv = .int .i64 z ∧ i = .int .i64 j ∧ j ≤ n ∧ Hid (z = RW.tot (l.take j) ∧ Below B w wr ∧ wr.heap[B]? = some (.cells #[.int .i64 h, .int .i64 c, .slice a n ca] 39 (0, 0)))) (fun _ i _ => n - (intOf i).toNat)
  case atStart => exact ⟨0, 0, rfl, rfl, Nat.zero_le _, rfl, hA0.out, hs0.out⟩
  case round =>
    obtain ⟨j, z, rfl, rfl, hjn, hQ⟩ := hrel
    obtain ⟨wo, hwo⟩ : ∃ wo, wo = wr := ⟨_, rfl⟩
    subst hwo
    have hzH := hide hQ.out.1
    have hBw := hide hQ.out.2.1
    have hsB := hide hQ.out.2.2
    have e0 : wo.cell? ⟨B, 2, none⟩ = some (.slice a n ca) := cellAt hsB.out 2
    clear hQ hA0 hs0
    have hz0 : -2000000000000000000 ≤ z := by
      have := (RW.tot_bd (l.take j)).1
      rw [← hzH.out, List.length_take] at this
      omega
    have hz1 : z ≤ 2000000000000000000 := by
      have := (RW.tot_bd (l.take j)).2
      rw [← hzH.out, List.length_take] at this
      omega
    by_cases hlt : j < n
    · obtain ⟨x, hx⟩ : ∃ x, l[j]? = some x := ⟨_, List.getElem?_eq_getElem (by rw [← hnH.out]; exact hlt)⟩
      obtain ⟨b, o, rfl, hb, hc⟩ := haH.out.resolve_left (by rintro rfl; simp at hx)
      have hrg : wo.rangeAt b (o + j * 3) (RW.lnl x) := fun i u hu => (World.cell?_of_block (a := ⟨b, o + j * 3 + i, none⟩) (hBw.out.block _ (by rw [hBH.out]; exact hb))).trans (hc j x hx i u hu)
      have hps := ln_size x
      have hpo := ln_one x
      have htk := hide (show RW.tot (l.take (j + 1)) = z + RW.pay x by rw [List.take_add_one, hx, Option.toList_some, RW.tot_snoc, hzH.out])
      obtain ⟨bx, hbx⟩ : ∃ b, b = wo.heap.size := ⟨_, rfl⟩
      have hg0 := hide (show (wo.alloc (.cells (RW.lnl x).toArray 61)).heap[bx]? = some (.cells (RW.lnl x).toArray 61 (0, 0)) from newAt hbx)
      have hgs := hide (show (wo.alloc (.cells (RW.lnl x).toArray 61)).heap[B]? = some (.cells #[.int .i64 h, .int .i64 c, .slice (some ⟨b, o, none⟩) n ca] 39 (0, 0)) from (alloc_bel (Below.refl wo.heap.size wo) (Nat.le_refl _) _).block _ (Array.getElem?_eq_some_iff.1 hsB.out).1 |>.trans hsB.out)
      have hbxH := hide hbx
      clear hbx hx hb hc
      go_upto_region 6 with (first
        | (refine wpList_load_mid rfl 61 (.tmp 16) rfl b (o + j * 3) rfl (RW.lnl x) _ hrg Try.underlying61 rfl hps ?_)
        | (refine wpListStoreNew rfl 61 (.tmp 5) (.tmp 17) rfl (RW.lnl x).toArray rfl rfl 61 _ hps rfl hpo ?_))
      refine gen_w (fun W => W.heap[bx]? = some (.cells (RW.lnl x).toArray 61 (0, 0)) ∧ Below B w W ∧ W.heap[B]? = some (.cells #[.int .i64 h, .int .i64 c, .slice (some ⟨b, o, none⟩) n ca] 39 (0, 0))) ⟨hg0.out, alloc_bel hBw.out hB0.out _, hgs.out⟩ ?_
      rw [← hbxH.out]
      clear hg0 hBw hbxH hrg hps hpo hsB e0 hgs
      rintro w5 ⟨g1, g2, g3⟩
      have c1 : w5.cell? ⟨bx, 1, none⟩ = some (.int .i64 x.2.1) := cellAt g1 1
      have c2 : w5.cell? ⟨bx, 2, none⟩ = some (.int .i64 x.2.2) := cellAt g1 2
      have hBw := hide g2
      have hsB := hide g3
      clear g1 g2 g3
      have hM1 := hide (fun W => rmoney_any x.2.1 W)
      have hM2 := hide (fun W => rmoney_any x.2.2 W)
      by_cases hm1 : RW.mon x.2.1 = true
      · by_cases hm2 : RW.mon x.2.2 = true
        · have hm : RW.monL x = true := by rw [RW.monL, hm1, hm2]; rfl
          have hp := hide (show RW.pay x = x.2.2 - x.2.1 by unfold RW.pay; rw [if_pos hm])
          obtain ⟨a1, a2⟩ := RW.mon_iff.1 hm1
          obtain ⟨a3, a4⟩ := RW.mon_iff.1 hm2
          rw [hm1] at hM1
          rw [hm2] at hM2
          clear hm hm1 hm2
          go_wp2_with (first
            | (go_at_call 31; refine (hM1.out _).mono ?_; rintro e w6 ⟨rfl, rfl⟩)
            | (go_at_call 31; refine (hM2.out _).mono ?_; rintro e w6 ⟨rfl, rfl⟩))
          go_roundw
          case rel => exact ⟨j + 1, z + x.2.2 - x.2.1, by go_num, by go_num, by omega, by rw [htk.out, hp.out]; omega, hBw.out, hsB.out⟩
          case measure => simp [intOf]; omega
        · have hp := hide (show RW.pay x = 0 by unfold RW.pay; rw [if_neg (by rw [RW.monL, Bool.and_eq_true]; exact fun e => hm2 e.2)])
          rw [Bool.not_eq_true] at hm2
          rw [hm1] at hM1
          rw [hm2] at hM2
          clear hm1 hm2
          go_wp2_with (first
            | (go_at_call 31; refine (hM1.out _).mono ?_; rintro e w6 ⟨rfl, rfl⟩)
            | (go_at_call 31; refine (hM2.out _).mono ?_; rintro e w6 ⟨rfl, rfl⟩))
          go_roundw
          case rel => exact ⟨j + 1, z, rfl, by go_num, by omega, by rw [htk.out, hp.out, Int.add_zero], hBw.out, hsB.out⟩
          case measure => simp [intOf]; omega
      · have hp := hide (show RW.pay x = 0 by unfold RW.pay; rw [if_neg (by rw [RW.monL, Bool.and_eq_true]; exact fun e => hm1 e.1)])
        rw [Bool.not_eq_true] at hm1
        rw [hm1] at hM1
        clear hm1 hM2
        go_wp2_with (go_at_call 31; refine (hM1.out _).mono ?_; rintro e w6 ⟨rfl, rfl⟩)
        go_roundw
        case rel => exact ⟨j + 1, z, rfl, by go_num, by omega, by rw [htk.out, hp.out, Int.add_zero], hBw.out, hsB.out⟩
        case measure => simp [intOf]; omega
    · obtain rfl : j = n := by omega
      have hz := hide (show z = RW.tot l by rw [hzH.out, List.take_of_length_le (by rw [← hnH.out]; exact Nat.le_refl _)])
      go_wp2
      go_ret
      exact ⟨by rw [← hz.out] <;> rfl, hBw.out⟩
end Go.Proofs.Ytillplhadimgmaa

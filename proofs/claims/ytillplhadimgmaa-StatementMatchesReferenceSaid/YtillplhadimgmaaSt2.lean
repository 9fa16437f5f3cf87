/-
  Package statement: Total; the reference's Total: what they return; only new memory is written.
-/
import Derived.Test.YtillplhadimgmaaSt1
namespace Go.Proofs.Ytillplhadimgmaa
open Go.RowKit
theorem ln_len (x : RW.Ln) : (RW.lnl x).length = 3 := rfl
theorem ln_size (x : RW.Ln) : (Try.prog.info? 61).map (·.size) = some (RW.lnl x).length := by kernel_rfl
theorem info_ln : (Try.prog.info? 61).map (fun i => (i.zero, i.size, i.bytes)) = some (some (.agg #[.int .i64 0, .int .i64 0, .int .i64 0]), 3, 24) := by kernel_rfl
theorem ln_one (x : RW.Ln) : (RW.lnl x).toArray.all (·.oneCell') = true := by
  simp [RW.lnl]
  exact ⟨rfl, rfl, rfl⟩
/-- a slice of lines -/
abbrev LnsV (W : World) (v : Value) (l : List RW.Ln) : Prop := RowV 3 RW.lnl W v l
set_option maxRecDepth 10000 in
set_option maxHeartbeats 2000000 in
theorem total_any (h c : Int) (v : Value) (l : List RW.Ln) (hl : l.length ≤ 1300) (w : World) (hv : LnsV w v l) :
    Calls Try.prog 15 #[.agg #[.int .i64 h, .int .i64 c, v]] w fun e w' => e = .returned (.int .i64 (RW.tot l)) ∧ Below w.heap.size w w' := by
  obtain ⟨a, ca, rfl, hca, ha⟩ := hv
  obtain ⟨n, hn⟩ : ∃ n, n = l.length := ⟨_, rfl⟩
  obtain ⟨B, hBe⟩ : ∃ B, B = w.heap.size := ⟨_, rfl⟩
  rw [← hn] at hl ⊢
  have hnH := hide hn
  have haH := hide ha
  have hBH := hide hBe
  have hB0 := hide (Nat.le_of_eq hBe)
  have hA0 := hide (alloc_bel (Below.refl w.heap.size w) (Nat.le_refl _) (.cells #[.int .i64 h, .int .i64 c, .slice a n ca] 39))
  rw [← hBe] at hA0 ⊢
  clear ha hn hca hBe
  go_enter Try.func15, Try.ntmps15
  go_wp2
  go_loopw [3, 9] (fun nv i wr => ∃ (j : Nat) (z : Int), nv = .int .i64 z ∧ i = .int .i64 j ∧ j ≤ n ∧ Hid (z = RW.tot (l.take j) ∧ Below B w wr)) (fun _ i _ => n - (intOf i).toNat)
  case atStart => exact ⟨0, 0, rfl, rfl, Nat.zero_le _, rfl, hA0.out⟩
  case round =>
    obtain ⟨j, z, rfl, rfl, hjn, hQ⟩ := hrel
    obtain ⟨wo, hwo⟩ : ∃ wo, wo = wr := ⟨_, rfl⟩
    subst hwo
    have hzH := hide hQ.out.1
    have hBw := hide hQ.out.2
    clear hQ hA0
    have hz0 : -2000000000000000000 ≤ z := by
      have := (RW.tot_bd (l.take j)).1
      rw [← hzH.out, List.length_take] at this
      omega
    have hz1 : z ≤ 2000000000000000000 := by
      have := (RW.tot_bd (l.take j)).2
      rw [← hzH.out, List.length_take] at this
      omega
    by_cases hlt : j < n
    · obtain ⟨x, hx⟩ : ∃ x, l[j]? = some x := ⟨_, List.getElem?_eq_getElem (by rw [← hnH.out]; exact hlt)⟩
      obtain ⟨b, o, rfl, hb, hc⟩ := haH.out.resolve_left (by rintro rfl; simp at hx)
      have hrg : wo.rangeAt b (o + j * 3) (RW.lnl x) := fun i u hu => (World.cell?_of_block (a := ⟨b, o + j * 3 + i, none⟩) (hBw.out.block _ (by rw [hBH.out]; exact hb))).trans (hc j x hx i u hu)
      have hps := ln_size x
      have hpo := ln_one x
      have htk := hide (show RW.tot (l.take (j + 1)) = z + RW.pay x by rw [List.take_add_one, hx, Option.toList_some, RW.tot_snoc, hzH.out])
      have hsz := hide (show B ≤ wo.heap.size by rw [hBH.out]; exact hBH.out ▸ hBw.out.size)
      obtain ⟨bx, hbx⟩ : ∃ b, b = wo.heap.size := ⟨_, rfl⟩
      have hg0 := hide (show (wo.alloc (.cells (RW.lnl x).toArray 61)).heap[bx]? = some (.cells (RW.lnl x).toArray 61 (0, 0)) from newAt hbx)
      have hbxH := hide hbx
      clear hbx hx hb hc
      go_upto_region 5 with (first
        | (refine wpList_load_mid rfl 61 (.tmp 11) rfl b (o + j * 3) rfl (RW.lnl x) _ hrg Try.underlying61 rfl hps ?_)
        | (refine wpListStoreNew rfl 61 (.tmp 5) (.tmp 12) rfl (RW.lnl x).toArray rfl rfl 61 _ hps rfl hpo ?_))
      refine gen_w (fun W => W.heap[bx]? = some (.cells (RW.lnl x).toArray 61 (0, 0)) ∧ Below B w W) ⟨hg0.out, alloc_bel hBw.out hB0.out _⟩ ?_
      rw [← hbxH.out]
      clear hg0 hBw hsz hbxH hrg hps hpo
      rintro w5 ⟨g1, g2⟩
      have c1 : w5.cell? ⟨bx, 1, none⟩ = some (.int .i64 x.2.1) := cellAt g1 1
      have c2 : w5.cell? ⟨bx, 2, none⟩ = some (.int .i64 x.2.2) := cellAt g1 2
      have hw5 := hide (show B ≤ w5.heap.size by rw [hBH.out]; exact hBH.out ▸ g2.size)
      have hA := hide (alloc_bel (Below.refl w5.heap.size w5) (Nat.le_refl _) (.cells #[.int .i64 x.2.1, .int .i64 x.2.2] 3))
      have hbl := (Array.getElem?_eq_some_iff.1 g1).1
      have d1 : (w5.alloc (.cells #[.int .i64 x.2.1, .int .i64 x.2.2] 3)).cell? ⟨bx, 1, none⟩ = some (.int .i64 x.2.1) := (World.cell?_of_block (a := ⟨bx, 1, none⟩) (hA.out.block _ hbl)).trans c1
      have d2 : (w5.alloc (.cells #[.int .i64 x.2.1, .int .i64 x.2.2] 3)).cell? ⟨bx, 2, none⟩ = some (.int .i64 x.2.2) := (World.cell?_of_block (a := ⟨bx, 2, none⟩) (hA.out.block _ hbl)).trans c2
      have hM := hide (money_any (.slice (some ⟨w5.heap.size, 0, none⟩) 2 2) [x.2.1, x.2.2] (by simp) (w5.alloc (.cells #[.int .i64 x.2.1, .int .i64 x.2.2] 3)) (rows_lit (k := 1) (enc := encI) w5 3 (fun _ => rfl) [x.2.1, x.2.2]))
      rw [show [x.2.1, x.2.2].all RW.mon = RW.monL x by simp [RW.monL]] at hM
      have hBw := hide (alloc_bel g2 hB0.out (.cells #[.int .i64 x.2.1, .int .i64 x.2.2] 3))
      clear g1 g2 hbl
      by_cases hm : RW.monL x = true
      · have hp := hide (show RW.pay x = x.2.2 - x.2.1 by unfold RW.pay; rw [if_pos hm])
        have hb := RW.pay_bd x
        rw [hp.out] at hb
        obtain ⟨hb0, hb1⟩ := hb
        rw [hm] at hM
        clear hm
        go_wp2_with (go_at_call 30; refine hM.out.mono ?_; rintro e w6 ⟨rfl, rfl⟩)
        go_roundw
        case rel => exact ⟨j + 1, z + (x.2.2 - x.2.1), by go_num, by go_num, by omega, by rw [htk.out, hp.out], hBw.out⟩
        case measure => simp [intOf]; omega
      · have hp := hide (show RW.pay x = 0 by unfold RW.pay; rw [if_neg hm])
        rw [Bool.not_eq_true] at hm
        rw [hm] at hM
        clear hm
        go_wp2_with (go_at_call 30; refine hM.out.mono ?_; rintro e w6 ⟨rfl, rfl⟩)
        go_roundw
        case rel => exact ⟨j + 1, z, by rfl, by go_num, by omega, by rw [htk.out, hp.out, Int.add_zero], hBw.out⟩
        case measure => simp [intOf]; omega
    · obtain rfl : j = n := by omega
      have hz := hide (show z = RW.tot l by rw [hzH.out, List.take_of_length_le (by rw [← hnH.out]; exact Nat.le_refl _)])
      go_wp2
      go_ret
      exact ⟨by rw [← hz.out] <;> rfl, hBw.out⟩
end Go.Proofs.Ytillplhadimgmaa

/-
  Package statement: valid: what it returns; only new memory is written.
-/
import Derived.Test.YtillplhadimgmaaSt2
namespace Go.Proofs.Ytillplhadimgmaa
open Go.RowKit
theorem stmt_val (h c : Int) (n : Nat) (q : Bool) : (q && (decide (1 ≤ h ∧ h ≤ 1000000) && (decide (0 ≤ c ∧ c < 1200) && decide (1 ≤ n)))) = true ↔ q = true ∧ 1 ≤ h ∧ h ≤ 1000000 ∧ 0 ≤ c ∧ c < 1200 ∧ 1 ≤ n := by
  simp [and_assoc]
set_option maxRecDepth 10000 in
set_option maxHeartbeats 4000000 in
theorem valid_any (h c : Int) (v : Value) (l : List RW.Ln) (hl : l.length ≤ 100000) (w : World) (hv : LnsV w v l) :
    Calls Try.prog 33 #[.agg #[.int .i64 h, .int .i64 c, v]] w fun e w' => e = .returned (.bool (RW.valB (h, c, l))) ∧ Below w.heap.size w w' := by
  obtain ⟨a, ca, rfl, hca, ha⟩ := hv
  obtain ⟨n, hn⟩ : ∃ n, n = l.length := ⟨_, rfl⟩
  obtain ⟨B, hBe⟩ : ∃ B, B = w.heap.size := ⟨_, rfl⟩
  obtain ⟨q, hq⟩ : ∃ q, q = RW.valB (h, c, l) := ⟨_, rfl⟩
  rw [← hq]
  rw [← hn] at hl ⊢
  have hqH := hide hq
  have hnH := hide hn
  have haH := hide ha
  have hBH := hide hBe
  have hB0 := hide (Nat.le_of_eq hBe)
  have hA0 := hide (alloc_bel (Below.refl w.heap.size w) (Nat.le_refl _) (.cells #[.int .i64 h, .int .i64 c, .slice a n ca] 39))
  have hs0 := hide (alloc_at1 w (.cells #[.int .i64 h, .int .i64 c, .slice a n ca] 39))
  rw [← hBe] at hA0 hs0 ⊢
  clear ha hn hca hq
  go_enter Try.func33, Try.ntmps33
  go_wp2
  rw [← hBe]
  clear hBe
  go_loopw [3, 9] (fun lv i wr => ∃ (j : Nat) (z : Int), lv = .int .i64 z ∧ i = .int .i64 j ∧ j ≤ n ∧ Hid (RW.lnsB (-1) l = RW.lnsB z (l.drop j) ∧ Below B w wr ∧ wr.heap[B]? = some (.cells #[.int .i64 h, .int .i64 c, .slice a n ca] 39 (0, 0)))) (fun _ i _ => n - (intOf i).toNat)
  case atStart => exact ⟨0, -1, rfl, rfl, Nat.zero_le _, rfl, hA0.out, hs0.out⟩
  case round =>
    obtain ⟨j, z, rfl, rfl, hjn, hQ⟩ := hrel
    obtain ⟨wo, hwo⟩ : ∃ wo, wo = wr := ⟨_, rfl⟩
    subst hwo
    have hzH := hide hQ.out.1
    have hBw := hide hQ.out.2.1
    have hsB := hide hQ.out.2.2
    clear hQ hA0 hs0
    by_cases hlt : j < n
    · obtain ⟨x, hx⟩ : ∃ x, l[j]? = some x := ⟨_, List.getElem?_eq_getElem (by rw [← hnH.out]; exact hlt)⟩
      obtain ⟨b, o, rfl, hb, hc⟩ := haH.out.resolve_left (by rintro rfl; simp at hx)
      have hrg : wo.rangeAt b (o + j * 3) (RW.lnl x) := fun i u hu => (World.cell?_of_block (a := ⟨b, o + j * 3 + i, none⟩) (hBw.out.block _ (by rw [hBH.out]; exact hb))).trans (hc j x hx i u hu)
      have hps := ln_size x
      have hpo := ln_one x
      have hdr := hide (show RW.lnsB (-1) l = (decide (z < x.1) && decide (x.1 < 1200) && RW.monL x && RW.dif x && RW.lnsB x.1 (l.drop (j + 1))) by
        rw [hzH.out, List.drop_eq_getElem_cons (by rw [← hnH.out]; exact hlt), (List.getElem?_eq_some_iff.1 hx).2]
        rfl)
      obtain ⟨bx, hbx⟩ : ∃ b, b = wo.heap.size := ⟨_, rfl⟩
      have hg0 := hide (show (wo.alloc (.cells (RW.lnl x).toArray 61)).heap[bx]? = some (.cells (RW.lnl x).toArray 61 (0, 0)) from newAt hbx)
      have hgs := hide (show (wo.alloc (.cells (RW.lnl x).toArray 61)).heap[B]? = some (.cells #[.int .i64 h, .int .i64 c, .slice (some ⟨b, o, none⟩) n ca] 39 (0, 0)) from (alloc_bel (Below.refl wo.heap.size wo) (Nat.le_refl _) _).block _ (Array.getElem?_eq_some_iff.1 hsB.out).1 |>.trans hsB.out)
      have hbxH := hide hbx
      clear hbx hx hb hc
      go_upto_region 5 with (first
        | (refine wpList_load_mid rfl 61 (.tmp 11) rfl b (o + j * 3) rfl (RW.lnl x) _ hrg Try.underlying61 rfl hps ?_)
        | (refine wpListStoreNew rfl 61 (.tmp 5) (.tmp 12) rfl (RW.lnl x).toArray rfl rfl 61 _ hps rfl hpo ?_))
      refine gen_w (fun W => W.heap[bx]? = some (.cells (RW.lnl x).toArray 61 (0, 0)) ∧ Below B w W ∧ W.heap[B]? = some (.cells #[.int .i64 h, .int .i64 c, .slice (some ⟨b, o, none⟩) n ca] 39 (0, 0))) ⟨hg0.out, alloc_bel hBw.out hB0.out _, hgs.out⟩ ?_
      rw [← hbxH.out]
      clear hg0 hBw hbxH hrg hps hpo hsB hgs
      rintro w5 ⟨g1, g2, g3⟩
      have c0 : w5.cell? ⟨bx, 0, none⟩ = some (.int .i64 x.1) := cellAt g1 0
      have c1 : w5.cell? ⟨bx, 1, none⟩ = some (.int .i64 x.2.1) := cellAt g1 1
      have c2 : w5.cell? ⟨bx, 2, none⟩ = some (.int .i64 x.2.2) := cellAt g1 2
      have hA := hide (alloc_bel (Below.refl w5.heap.size w5) (Nat.le_refl _) (.cells #[.int .i64 x.2.1, .int .i64 x.2.2] 3))
      have hbl := (Array.getElem?_eq_some_iff.1 g1).1
      have d0 : (w5.alloc (.cells #[.int .i64 x.2.1, .int .i64 x.2.2] 3)).cell? ⟨bx, 0, none⟩ = some (.int .i64 x.1) := (World.cell?_of_block (a := ⟨bx, 0, none⟩) (hA.out.block _ hbl)).trans c0
      have d1 : (w5.alloc (.cells #[.int .i64 x.2.1, .int .i64 x.2.2] 3)).cell? ⟨bx, 1, none⟩ = some (.int .i64 x.2.1) := (World.cell?_of_block (a := ⟨bx, 1, none⟩) (hA.out.block _ hbl)).trans c1
      have d2 : (w5.alloc (.cells #[.int .i64 x.2.1, .int .i64 x.2.2] 3)).cell? ⟨bx, 2, none⟩ = some (.int .i64 x.2.2) := (World.cell?_of_block (a := ⟨bx, 2, none⟩) (hA.out.block _ hbl)).trans c2
      have hM := hide (money_any (.slice (some ⟨w5.heap.size, 0, none⟩) 2 2) [x.2.1, x.2.2] (by simp) (w5.alloc (.cells #[.int .i64 x.2.1, .int .i64 x.2.2] 3)) (rows_lit (k := 1) (enc := encI) w5 3 (fun _ => rfl) [x.2.1, x.2.2]))
      rw [show [x.2.1, x.2.2].all RW.mon = RW.monL x by simp [RW.monL]] at hM
      have hB5 := hide g2
      have hBw := hide (alloc_bel g2 hB0.out (.cells #[.int .i64 x.2.1, .int .i64 x.2.2] 3))
      have hsB := hide ((hA.out.block _ (Array.getElem?_eq_some_iff.1 g3).1).trans g3)
      clear g1 g2 g3 hbl hA
      have hfal := hide (fun (e : RW.lnsB (-1) l = false) => (show q = false by rw [hqH.out, RW.valB, e]; rfl))
      by_cases q1 : x.1 ≤ z
      · have hno := hide (hfal.out (by rw [hdr.out, decide_eq_false (by omega : ¬ z < x.1)]; rfl))
        go_wp2
        go_ret
        exact ⟨by rw [hno.out] <;> rfl, hB5.out⟩
      · by_cases q2 : 1200 ≤ x.1
        · have hno := hide (hfal.out (by rw [hdr.out, decide_eq_false (by omega : ¬ x.1 < 1200)]; simp))
          go_wp2
          go_ret
          exact ⟨by rw [hno.out] <;> rfl, hB5.out⟩
        · by_cases q3 : RW.monL x = true
          · rw [q3] at hM
            by_cases q4 : x.2.1 = x.2.2
            · have hno := hide (hfal.out (by rw [hdr.out]; simp [RW.dif, q4]))
              rw [q4] at c1 d0 d1 d2 hM hBw hsB
              clear q3 q4 hdr
              go_wp2_with (go_at_call 30; refine hM.out.mono ?_; rintro e w6 ⟨rfl, rfl⟩)
              go_ret
              exact ⟨by rw [hno.out] <;> rfl, hBw.out⟩
            · have hgo := hide (show RW.lnsB (-1) l = RW.lnsB x.1 (l.drop (j + 1)) by rw [hdr.out, decide_eq_true (by omega : z < x.1), decide_eq_true (by omega : x.1 < 1200), q3, RW.dif, decide_eq_true q4]; rfl)
              clear q3
              go_wp2_with (go_at_call 30; refine hM.out.mono ?_; rintro e w6 ⟨rfl, rfl⟩)
              go_roundw
              case rel => exact ⟨j + 1, x.1, by rfl, by go_num, by omega, hgo.out, hBw.out, hsB.out⟩
              case measure => simp [intOf]; omega
          · rw [Bool.not_eq_true] at q3
            rw [q3] at hM
            have hno := hide (hfal.out (by rw [hdr.out, q3]; simp))
            clear q3
            go_wp2_with (go_at_call 30; refine hM.out.mono ?_; rintro e w6 ⟨rfl, rfl⟩)
            go_ret
            exact ⟨by rw [hno.out] <;> rfl, hBw.out⟩
    · obtain rfl : j = n := by omega
      have e0 : wo.cell? ⟨B, 0, none⟩ = some (.int .i64 h) := cellAt hsB.out 0
      have e1 : wo.cell? ⟨B, 1, none⟩ = some (.int .i64 c) := cellAt hsB.out 1
      have e2 : wo.cell? ⟨B, 2, none⟩ = some (.slice a j ca) := cellAt hsB.out 2
      have hz := hide (show q = true ↔ 1 ≤ h ∧ h ≤ 1000000 ∧ 0 ≤ c ∧ c < 1200 ∧ 1 ≤ j by
        have h1 := hzH.out
        rw [List.drop_eq_nil_of_le (by rw [← hnH.out]; exact Nat.le_refl _)] at h1
        rw [hqH.out, RW.valB, stmt_val, ← hnH.out, h1, RW.lnsB]
        simp)
      by_cases q1 : 1 ≤ h
      · by_cases q2 : h ≤ 1000000
        · by_cases q3 : 0 ≤ c
          · by_cases q4 : c < 1200
            · by_cases q5 : 1 ≤ j
              · have hno := hide (show q = true from hz.out.2 ⟨q1, q2, q3, q4, q5⟩)
                have d := hide (show decide ((1 : Int) ≤ (j : Int)) = true from decide_eq_true (by omega))
                go_wp2
                go_ret
                exact ⟨by first | (rw [hno.out] <;> rfl) | (rw [hno.out, ← d.out] <;> rfl), hBw.out⟩
              · have hno := hide (show q = false from by rw [← Bool.not_eq_true, hz.out]; omega)
                have d := hide (show decide ((1 : Int) ≤ (j : Int)) = false from decide_eq_false (by omega))
                go_wp2
                go_ret
                exact ⟨by first | (rw [hno.out] <;> rfl) | (rw [hno.out, ← d.out] <;> rfl), hBw.out⟩
            · have hno := hide (show q = false from by rw [← Bool.not_eq_true, hz.out]; omega)
              have d := hide (show decide (c < 1200) = false from decide_eq_false q4)
              go_wp2
              go_ret
              exact ⟨by first | (rw [hno.out] <;> rfl) | (rw [hno.out, ← d.out] <;> rfl), hBw.out⟩
          · have hno := hide (show q = false from by rw [← Bool.not_eq_true, hz.out]; omega)
            have d := hide (show decide (0 ≤ c) = false from decide_eq_false q3)
            go_wp2
            go_ret
            exact ⟨by first | (rw [hno.out] <;> rfl) | (rw [hno.out, ← d.out] <;> rfl), hBw.out⟩
        · have hno := hide (show q = false from by rw [← Bool.not_eq_true, hz.out]; omega)
          have d := hide (show decide (h ≤ 1000000) = false from decide_eq_false q2)
          go_wp2
          go_ret
          exact ⟨by first | (rw [hno.out] <;> rfl) | (rw [hno.out, ← d.out] <;> rfl), hBw.out⟩
      · have hno := hide (show q = false from by rw [← Bool.not_eq_true, hz.out]; omega)
        have d := hide (show decide (1 ≤ h) = false from decide_eq_false q1)
        go_wp2
        go_ret
        exact ⟨by first | (rw [hno.out] <;> rfl) | (rw [hno.out, ← d.out] <;> rfl), hBw.out⟩
end Go.Proofs.Ytillplhadimgmaa

/-
  Package statement's Same: what it returns; only new memory is written.
-/
import Derived.Test.YtillplhadimgmaaSt4
namespace Go.Proofs.Ytillplhadimgmaa
open Go.RowKit
attribute [local go_sem ↓] ldRow_ln
set_option maxRecDepth 10000 in
set_option maxHeartbeats 2000000 in
theorem ssame_any (h1 c1 h2 c2 : Int) (v u : Value) (l m : List RW.Ln) (hl : l.length ≤ 1000000) (hm : m.length ≤ 1000000) (w : World) (hv : LnsV w v l) (hu : LnsV w u m) :
    Calls Try.prog 24 #[.agg #[.int .i64 h1, .int .i64 c1, v], .agg #[.int .i64 h2, .int .i64 c2, u]] w fun e w' => e = .returned (.bool (decide (h1 = h2 ∧ c1 = c2 ∧ l = m))) ∧ Below w.heap.size w w' := by
  obtain ⟨a, ca, rfl, _, ha⟩ := hv
  obtain ⟨b, cb, rfl, _, hb⟩ := hu
  have haH := hide ha
  have hbH := hide hb
  obtain ⟨q, hq⟩ : ∃ q, q = decide (h1 = h2 ∧ c1 = c2 ∧ l = m) := ⟨_, rfl⟩
  rw [← hq]
  have hqH := hide hq
  obtain ⟨n, hn⟩ : ∃ n, n = l.length := ⟨_, rfl⟩
  obtain ⟨k, hk⟩ : ∃ k, k = m.length := ⟨_, rfl⟩
  have hT := hide (TwoS.start w h1 c1 h2 c2 (.slice a l.length ca) (.slice b m.length cb))
  rw [← hn] at hl hT ⊢
  rw [← hk] at hm hT ⊢
  have hnH := hide hn
  have hkH := hide hk
  obtain ⟨B, hBe⟩ : ∃ B, B = w.heap.size := ⟨_, rfl⟩
  have hBH := hide hBe
  clear ha hb hq hn hk
  go_enter Try.func24, Try.ntmps24
  go_upto_region 1 with fail
  rw [← hBe] at hT ⊢
  clear hBe
  refine gen_w (TwoS w B h1 c1 h2 c2 (.slice a n ca) (.slice b k cb)) hT.out ?_
  clear hT
  intro w1 hT1
  have hT := hide hT1
  have x0 : w1.cell? ⟨B, 0, none⟩ = some (.int .i64 h1) := cellAt hT1.one 0
  have x1 : w1.cell? ⟨B, 1, none⟩ = some (.int .i64 c1) := cellAt hT1.one 1
  have x2 : w1.cell? ⟨B, 2, none⟩ = some (.slice a n ca) := cellAt hT1.one 2
  have y0 : w1.cell? ⟨B + 1, 0, none⟩ = some (.int .i64 h2) := cellAt hT1.two 0
  have y1 : w1.cell? ⟨B + 1, 1, none⟩ = some (.int .i64 c2) := cellAt hT1.two 1
  have y2 : w1.cell? ⟨B + 1, 2, none⟩ = some (.slice b k cb) := cellAt hT1.two 2
  clear hT1
  by_cases hne : n = k
  · by_cases hh : h1 = h2
    · by_cases hc : c1 = c2
      · subst hh hc hne
        go_wp2
        go_loopw [5, 6] (fun sv i wr => ∃ (j : Nat) (s : Bool), sv = .bool s ∧ j ≤ n ∧ i = .int .i64 j ∧ Hid ((s = true → l.take j = m.take j) ∧ (s = false → l ≠ m) ∧ TwoS w B h1 c1 h1 c1 (.slice a n ca) (.slice b n cb) wr)) (fun _ i _ => n - (intOf i).toNat)
        case atStart => exact ⟨0, true, rfl, Nat.zero_le _, rfl, fun _ => rfl, (fun e => by cases e), hT.out⟩
        case round =>
          obtain ⟨j, s, rfl, hj, rfl, hP⟩ := hrel
          obtain ⟨wo, hwo⟩ : ∃ wo, wo = wr := ⟨_, rfl⟩
          subst hwo
          clear x0 x1 x2 y0 y1 y2 hT
          have x2 : wo.cell? ⟨B, 2, none⟩ = some (.slice a n ca) := cellAt hP.out.2.2.one 2
          have y2 : wo.cell? ⟨B + 1, 2, none⟩ = some (.slice b n cb) := cellAt hP.out.2.2.two 2
          cases s
          · have hno := hide (show q = false by rw [hqH.out]; exact decide_eq_false (fun e => hP.out.2.1 rfl e.2.2))
            go_wp2
            go_ret
            exact ⟨by rw [hno.out] <;> rfl, hBH.out ▸ hP.out.2.2.bel⟩
          · have hQ := hide (hP.out.1 rfl)
            by_cases hlt : j < n
            · obtain ⟨x, hx⟩ : ∃ x, l[j]? = some x := ⟨_, List.getElem?_eq_getElem (by rw [← hnH.out]; exact hlt)⟩
              obtain ⟨y, hy⟩ : ∃ y, m[j]? = some y := ⟨_, List.getElem?_eq_getElem (by rw [← hkH.out]; exact hlt)⟩
              obtain ⟨b1, o1, rfl, hb1, hc1⟩ := haH.out.resolve_left (by rintro rfl; simp at hx)
              obtain ⟨b2, o2, rfl, hb2, hc2⟩ := hbH.out.resolve_left (by rintro rfl; simp at hy)
              have hr1 : wo.rangeAt b1 (o1 + j * 3) (RW.lnl x) := fun i u hu => (World.cell?_of_block (a := ⟨b1, o1 + j * 3 + i, none⟩) (hP.out.2.2.bel.block _ (by rw [hBH.out]; exact hb1))).trans (hc1 j x hx i u hu)
              have hr2 : wo.rangeAt b2 (o2 + j * 3) (RW.lnl y) := fun i u hu => (World.cell?_of_block (a := ⟨b2, o2 + j * 3 + i, none⟩) (hP.out.2.2.bel.block _ (by rw [hBH.out]; exact hb2))).trans (hc2 j y hy i u hu)
              have hl1 := ln_ld hr1
              have hl2 := ln_ld hr2
              have heql := fun W => eql_ln x y W
              obtain ⟨X, hX⟩ : ∃ X, X = (RW.lnl x).toArray := ⟨_, rfl⟩
              obtain ⟨Y, hY⟩ : ∃ Y, Y = (RW.lnl y).toArray := ⟨_, rfl⟩
              rw [← hX] at hl1 heql
              rw [← hY] at hl2 heql
              have hxH := hide hx
              have hyH := hide hy
              clear hX hY hx hy hb1 hb2 hc1 hc2 hr1 hr2
              by_cases he : x = y
              · rw [decide_eq_true he] at heql
                have heH := hide he
                clear he
                go_wp2
                go_quiet (fail)
                go_wp2
                go_roundw
                case rel => exact ⟨j + 1, true, rfl, by omega, by go_num, (fun _ => RW.take_eqL l m j x hxH.out (heH.out ▸ hyH.out) hQ.out), (fun e => by cases e), ⟨hP.out.2.2.one, hP.out.2.2.two, ⟨hP.out.2.2.bel.os, hP.out.2.2.bel.tape, hP.out.2.2.bel.output, hP.out.2.2.bel.size, hP.out.2.2.bel.block⟩⟩⟩
                case measure => simp [intOf]; omega
              · rw [decide_eq_false he] at heql
                have heH := hide he
                clear he
                go_wp2
                go_quiet (fail)
                go_wp2
                go_roundw
                case rel => exact ⟨j + 1, false, rfl, by omega, by go_num, (fun e => by cases e), (fun _ => RW.ne_of_getL hxH.out hyH.out heH.out), ⟨hP.out.2.2.one, hP.out.2.2.two, ⟨hP.out.2.2.bel.os, hP.out.2.2.bel.tape, hP.out.2.2.bel.output, hP.out.2.2.bel.size, hP.out.2.2.bel.block⟩⟩⟩
                case measure => simp [intOf]; omega
            · obtain rfl : j = n := by omega
              have he := hide (show l = m by have := hQ.out; rwa [List.take_of_length_le (by rw [← hnH.out]; exact Nat.le_refl _), List.take_of_length_le (by rw [← hkH.out]; exact Nat.le_refl _)] at this)
              have hno := hide (show q = true by rw [hqH.out]; exact decide_eq_true (by simp [he.out]))
              go_wp2
              go_ret
              exact ⟨by rw [hno.out] <;> rfl, hBH.out ▸ hP.out.2.2.bel⟩
      · have hno := hide (show q = false by rw [hqH.out]; exact decide_eq_false (fun e => hc e.2.1))
        have d := hide (show decide (c1 = c2) = false from decide_eq_false hc)
        subst hh hne
        go_wp2
        refine wp_loop_rounds 1 ?_
        rw [rounds_succ]
        go_wp2
        go_ret
        exact ⟨by first | (rw [hno.out] <;> rfl) | (rw [hno.out, ← d.out] <;> rfl), hBH.out ▸ hT.out.bel⟩
    · have hno := hide (show q = false by rw [hqH.out]; exact decide_eq_false (fun e => hh e.1))
      have d := hide (show decide (h1 = h2) = false from decide_eq_false hh)
      subst hne
      go_wp2
      refine wp_loop_rounds 1 ?_
      rw [rounds_succ]
      go_wp2
      go_ret
      exact ⟨by first | (rw [hno.out] <;> rfl) | (rw [hno.out, ← d.out] <;> rfl), hBH.out ▸ hT.out.bel⟩
  · have hno := hide (show q = false by rw [hqH.out]; exact decide_eq_false (fun e => hne (by rw [hnH.out, hkH.out, e.2.2])))
    have d := hide (show decide ((n : Int) = (k : Int)) = false from decide_eq_false (by omega))
    go_wp2
    refine wp_loop_rounds 1 ?_
    rw [rounds_succ]
    go_wp2
    go_ret
    exact ⟨by first | (rw [hno.out] <;> rfl) | (rw [hno.out, ← d.out] <;> rfl), hBH.out ▸ hT.out.bel⟩
end Go.Proofs.Ytillplhadimgmaa

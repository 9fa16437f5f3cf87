/-
  The reference's Same, package statement's Same: what they return; only new memory is written.
-/
import Derived.Laws.StructEq
import Derived.Test.YtillplhadimgmaaSt2
namespace Go.Proofs.Ytillplhadimgmaa
open Go.RowKit
theorem eq_ln (x y : RW.Ln) (w : World) : (Op.equal 61 (.agg (RW.lnl x).toArray) (.agg (RW.lnl y).toArray)).run Try.prog w = .ok (decide (x = y)) w := by
  obtain ⟨a0, a1, a2⟩ := x
  obtain ⟨b0, b1, b2⟩ := y
  have hu : Try.prog.underlying 61 = some (.struct (Try.prog.fieldsOf 61)) := by kernel_rfl
  have hst : Try.prog.stoodInHeld 61 = false := by kernel_rfl
  have e : ∀ x y : Int, (Op.equalIn 9999 3 (.int .i64 x) (.int .i64 y)).run Try.prog w = .ok (x == y) w := fun x y => run_equalIn_int w 9998 3 .i64 .i64 x y Try.underlying3
  have hf : (Try.prog.fieldsOf 61).toList.map (fun f => (f.name == "_", f.type, f.offset)) = [(false, 3, 0), (false, 3, 1), (false, 3, 2)] := by kernel_rfl
  show (Op.equalIn (9999 + 1) 61 _ _).run Try.prog w = _
  unfold RW.lnl
  rw [run_equalIn_struct w 9999 _ _ _ hu hst]
  generalize (Try.prog.fieldsOf 61).toList = fs at hf
  rcases fs with _ | ⟨f0, _ | ⟨f1, _ | ⟨f2, _ | ⟨f3, fl⟩⟩⟩⟩ <;> simp only [List.map_cons, List.map_nil, List.cons.injEq, Prod.mk.injEq, beq_eq_false_iff_ne, and_true, and_false, List.nil_eq, List.cons_ne_nil] at hf
  obtain ⟨⟨n0, t0, o0⟩, ⟨n1, t1, o1⟩, n2, t2, o2⟩ := hf
  have hp : ∀ (X : Array Value) (i : Nat) (v : Value), X[i]? = some v → (part 3 X i).run Try.prog w = .ok v w := fun X i v h => by
    simp [part, isAgg, run_underlying Try.underlying3, h]
  have p0 := hp #[.int .i64 a0, .int .i64 a1, .int .i64 a2] 0 (.int .i64 a0) rfl
  have p1 := hp #[.int .i64 a0, .int .i64 a1, .int .i64 a2] 1 (.int .i64 a1) rfl
  have p2 := hp #[.int .i64 a0, .int .i64 a1, .int .i64 a2] 2 (.int .i64 a2) rfl
  have q0 := hp #[.int .i64 b0, .int .i64 b1, .int .i64 b2] 0 (.int .i64 b0) rfl
  have q1 := hp #[.int .i64 b0, .int .i64 b1, .int .i64 b2] 1 (.int .i64 b1) rfl
  have q2 := hp #[.int .i64 b0, .int .i64 b1, .int .i64 b2] 2 (.int .i64 b2) rfl
  show (Op.eqFields 9999 #[.int .i64 a0, .int .i64 a1, .int .i64 a2] #[.int .i64 b0, .int .i64 b1, .int .i64 b2] [f0, f1, f2]).run Try.prog w = _
  generalize #[Value.int .i64 a0, Value.int .i64 a1, Value.int .i64 a2] = X at p0 p1 p2 ⊢
  generalize #[Value.int .i64 b0, Value.int .i64 b1, Value.int .i64 b2] = Y at q0 q1 q2 ⊢
  simp only [Op.eqFields, n0, n1, n2, t0, t1, t2, o0, o1, o2, ne_eq, not_false_eq_true, if_true, Sem.run_bind, p0, q0, Result.andThen_ok, e]
  by_cases g0 : a0 = b0
  · by_cases g1 : a1 = b1
    · by_cases g2 : a2 = b2
      · simp [g0, g1, g2, p1, q1, p2, q2, e]
      · simp [g0, g1, g2, p1, q1, p2, q2, e]
    · simp [g0, g1, p1, q1, e]
  · simp [g0]
theorem neq_ln (x y : RW.Ln) (w : World) : (binOp .neq 61 (.agg (RW.lnl x).toArray) (.agg (RW.lnl y).toArray)).run Try.prog w = .ok (.bool (!decide (x = y))) w := by
  simp only [binOp, Sem.run_bind, eq_ln, Result.andThen_ok, Sem.run_pure]
theorem eql_ln (x y : RW.Ln) (w : World) : (binOp .eql 61 (.agg (RW.lnl x).toArray) (.agg (RW.lnl y).toArray)).run Try.prog w = .ok (.bool (decide (x = y))) w := by
  simp only [binOp, Sem.run_bind, eq_ln, Result.andThen_ok, Sem.run_pure]
theorem ldRow_ln (x : Value) : Instr.loadAt 61 x = ldRow 61 x := rfl
attribute [local go_sem ↓] ldRow_ln
theorem ln_ld {W : World} {b o : Nat} {x : RW.Ln} (h : W.rangeAt b o (RW.lnl x)) (n : Nat) : (ldRow 61 (.pointer (some ⟨b, o, none⟩))).run Try.prog (W.drewN n) = .ok (.agg (RW.lnl x).toArray) (W.drewN n) :=
  ldRow_mid (W := W.drewN n) h Try.underlying61 rfl (ln_size x)
namespace RW
theorem take_eqL (l m : List Ln) (k : Nat) (x : Ln) (h1 : l[k]? = some x) (h2 : m[k]? = some x) (he : l.take k = m.take k) : l.take (k + 1) = m.take (k + 1) := by
  rw [List.take_add_one, List.take_add_one, he, h1, h2]
theorem ne_of_getL {l m : List Ln} {k : Nat} {x y : Ln} (h1 : l[k]? = some x) (h2 : m[k]? = some y) (h : x ≠ y) : l ≠ m := fun e => h (Option.some.inj (h1.symm.trans (e ▸ h2)))
end RW
/-- two statements in blocks B and B + 1 -/
structure TwoS (w : World) (B : Nat) (h1 c1 h2 c2 : Int) (v u : Value) (W : World) : Prop where
  one : W.heap[B]? = some (.cells #[.int .i64 h1, .int .i64 c1, v] 39 (0, 0))
  two : W.heap[B + 1]? = some (.cells #[.int .i64 h2, .int .i64 c2, u] 39 (0, 0))
  bel : Below B w W
theorem TwoS.start (w : World) (h1 c1 h2 c2 : Int) (v u : Value) : TwoS w w.heap.size h1 c1 h2 c2 v u ((w.alloc (.cells #[.int .i64 h1, .int .i64 c1, v] 39)).alloc (.cells #[.int .i64 h2, .int .i64 c2, u] 39)) :=
  ⟨((alloc_bel (Below.refl (w.alloc (.cells #[.int .i64 h1, .int .i64 c1, v] 39)).heap.size _) (Nat.le_refl _) _).block _ (by rw [alloc_size]; omega)).trans (alloc_at1 w _), by have := alloc_at1 (w.alloc (.cells #[.int .i64 h1, .int .i64 c1, v] 39)) (.cells #[.int .i64 h2, .int .i64 c2, u] 39); rwa [alloc_size] at this, alloc_bel (alloc_bel (Below.refl _ _) (Nat.le_refl _) _) (Nat.le_refl _) _⟩
set_option maxRecDepth 10000 in
set_option maxHeartbeats 2000000 in
theorem rsame_any (h1 c1 h2 c2 : Int) (v u : Value) (l m : List RW.Ln) (hl : l.length ≤ 1000000) (hm : m.length ≤ 1000000) (w : World) (hv : LnsV w v l) (hu : LnsV w u m) :
    Calls Try.prog 13 #[.agg #[.int .i64 h1, .int .i64 c1, v], .agg #[.int .i64 h2, .int .i64 c2, u]] w fun e w' => e = .returned (.bool (decide (h1 = h2 ∧ c1 = c2 ∧ l = m))) ∧ Below w.heap.size w w' := by
  obtain ⟨a, ca, rfl, _, ha⟩ := hv
  obtain ⟨b, cb, rfl, _, hb⟩ := hu
  have haH := hide ha
  have hbH := hide hb
  obtain ⟨q, hq⟩ : ∃ q, q = decide (h1 = h2 ∧ c1 = c2 ∧ l = m) := ⟨_, rfl⟩
  rw [← hq]
  have hqH := hide hq
  obtain ⟨n, hn⟩ : ∃ n, n = l.length := ⟨_, rfl⟩
  obtain ⟨k, hk⟩ : ∃ k, k = m.length := ⟨_, rfl⟩
  have hT := hide (TwoS.start w h1 c1 h2 c2 (.slice a l.length ca) (.slice b m.length cb))
  rw [← hn] at hl hT ⊢
  rw [← hk] at hm hT ⊢
  have hnH := hide hn
  have hkH := hide hk
  obtain ⟨B, hBe⟩ : ∃ B, B = w.heap.size := ⟨_, rfl⟩
  have hBH := hide hBe
  clear ha hb hq hn hk
  go_enter Try.func13, Try.ntmps13
  go_upto_region 1 with fail
  rw [← hBe] at hT ⊢
  clear hBe
  refine gen_w (TwoS w B h1 c1 h2 c2 (.slice a n ca) (.slice b k cb)) hT.out ?_
  clear hT
  intro w1 hT1
  have hT := hide hT1
  have x0 : w1.cell? ⟨B, 0, none⟩ = some (.int .i64 h1) := cellAt hT1.one 0
  have x1 : w1.cell? ⟨B, 1, none⟩ = some (.int .i64 c1) := cellAt hT1.one 1
  have x2 : w1.cell? ⟨B, 2, none⟩ = some (.slice a n ca) := cellAt hT1.one 2
  have y0 : w1.cell? ⟨B + 1, 0, none⟩ = some (.int .i64 h2) := cellAt hT1.two 0
  have y1 : w1.cell? ⟨B + 1, 1, none⟩ = some (.int .i64 c2) := cellAt hT1.two 1
  have y2 : w1.cell? ⟨B + 1, 2, none⟩ = some (.slice b k cb) := cellAt hT1.two 2
  clear hT1
  by_cases hh : h1 = h2
  · by_cases hc : c1 = c2
    · by_cases hne : n = k
      · subst hh hc hne
        go_wp2
        go_loopw [5] (fun i wr => ∃ j : Nat, j ≤ n ∧ i = .int .i64 j ∧ Hid (l.take j = m.take j ∧ TwoS w B h1 c1 h1 c1 (.slice a n ca) (.slice b n cb) wr)) (fun i _ => n - (intOf i).toNat)
        case atStart => exact ⟨0, Nat.zero_le _, rfl, rfl, hT.out⟩
        case round =>
          obtain ⟨j, hj, rfl, hP⟩ := hrel
          obtain ⟨wo, hwo⟩ : ∃ wo, wo = wr := ⟨_, rfl⟩
          subst hwo
          clear x0 x1 x2 y0 y1 y2 hT
          have x2 : wo.cell? ⟨B, 2, none⟩ = some (.slice a n ca) := cellAt hP.out.2.one 2
          have y2 : wo.cell? ⟨B + 1, 2, none⟩ = some (.slice b n cb) := cellAt hP.out.2.two 2
          by_cases hlt : j < n
          · obtain ⟨x, hx⟩ : ∃ x, l[j]? = some x := ⟨_, List.getElem?_eq_getElem (by rw [← hnH.out]; exact hlt)⟩
            obtain ⟨y, hy⟩ : ∃ y, m[j]? = some y := ⟨_, List.getElem?_eq_getElem (by rw [← hkH.out]; exact hlt)⟩
            obtain ⟨b1, o1, rfl, hb1, hc1⟩ := haH.out.resolve_left (by rintro rfl; simp at hx)
            obtain ⟨b2, o2, rfl, hb2, hc2⟩ := hbH.out.resolve_left (by rintro rfl; simp at hy)
            have hr1 : wo.rangeAt b1 (o1 + j * 3) (RW.lnl x) := fun i u hu => (World.cell?_of_block (a := ⟨b1, o1 + j * 3 + i, none⟩) (hP.out.2.bel.block _ (by rw [hBH.out]; exact hb1))).trans (hc1 j x hx i u hu)
            have hr2 : wo.rangeAt b2 (o2 + j * 3) (RW.lnl y) := fun i u hu => (World.cell?_of_block (a := ⟨b2, o2 + j * 3 + i, none⟩) (hP.out.2.bel.block _ (by rw [hBH.out]; exact hb2))).trans (hc2 j y hy i u hu)
            have hl1 := ln_ld hr1
            have hl2 := ln_ld hr2
            have hneq := fun W => neq_ln x y W
            obtain ⟨X, hX⟩ : ∃ X, X = (RW.lnl x).toArray := ⟨_, rfl⟩
            obtain ⟨Y, hY⟩ : ∃ Y, Y = (RW.lnl y).toArray := ⟨_, rfl⟩
            rw [← hX] at hl1 hneq
            rw [← hY] at hl2 hneq
            have hxH := hide hx
            have hyH := hide hy
            clear hX hY hx hy hb1 hb2 hc1 hc2 hr1 hr2
            by_cases he : x = y
            · rw [decide_eq_true he] at hneq
              have heH := hide he
              clear he
              go_wp2
              go_quiet (fail)
              go_wp2
              go_roundw
              case rel => exact ⟨j + 1, by omega, by go_num, RW.take_eqL l m j x hxH.out (heH.out ▸ hyH.out) hP.out.1, ⟨hP.out.2.one, hP.out.2.two, ⟨hP.out.2.bel.os, hP.out.2.bel.tape, hP.out.2.bel.output, hP.out.2.bel.size, hP.out.2.bel.block⟩⟩⟩
              case measure => simp [intOf]; omega
            · rw [decide_eq_false he] at hneq
              have heH := hide he
              clear he
              go_wp2
              go_quiet (fail)
              go_wp2
              go_ret
              have hno : q = false := by rw [hqH.out]; exact decide_eq_false (fun e => RW.ne_of_getL hxH.out hyH.out heH.out e.2.2)
              exact ⟨by rw [hno] <;> rfl, ⟨hP.out.2.bel.os, hP.out.2.bel.tape, hP.out.2.bel.output, hBH.out ▸ hP.out.2.bel.size, hBH.out ▸ hP.out.2.bel.block⟩⟩
          · obtain rfl : j = n := by omega
            have he := hide (show l = m by have := hP.out.1; rwa [List.take_of_length_le (by rw [← hnH.out]; exact Nat.le_refl _), List.take_of_length_le (by rw [← hkH.out]; exact Nat.le_refl _)] at this)
            go_wp2
            go_ret
            have hno : q = true := by rw [hqH.out]; exact decide_eq_true (by simp [he.out])
            exact ⟨by rw [hno] <;> rfl, hBH.out ▸ hP.out.2.bel⟩
      · have hno := hide (show q = false by rw [hqH.out]; exact decide_eq_false (fun e => hne (by rw [hnH.out, hkH.out, e.2.2])))
        subst hh hc
        go_wp2
        go_ret
        exact ⟨by rw [hno.out] <;> rfl, hBH.out ▸ hT.out.bel⟩
    · have hno := hide (show q = false by rw [hqH.out]; exact decide_eq_false (fun e => hc e.2.1))
      subst hh
      go_wp2
      go_ret
      exact ⟨by rw [hno.out] <;> rfl, hBH.out ▸ hT.out.bel⟩
  · have hno := hide (show q = false by rw [hqH.out]; exact decide_eq_false (fun e => hh e.1))
    go_wp2
    go_ret
    exact ⟨by rw [hno.out] <;> rfl, hBH.out ▸ hT.out.bel⟩
end Go.Proofs.Ytillplhadimgmaa

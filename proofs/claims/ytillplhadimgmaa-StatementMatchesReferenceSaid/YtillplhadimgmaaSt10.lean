/-
  The reference's Valid: what it returns; only new memory is written.
-/
import Derived.Test.YtillplhadimgmaaSt9
import Derived.Test.YtillplhadimgmaaStO
namespace Go.Proofs.Ytillplhadimgmaa
open Go.RowKit RG
namespace RW
theorem lnsB_len : ∀ (l : List Ln) (z : Int), lnsB z l = true → z < 1200 → z + l.length < 1200
  | [], z, _, hz => by simpa using hz
  | x :: l, z, h, _ => by
    simp only [lnsB, Bool.and_eq_true, decide_eq_true_eq] at h
    have := lnsB_len l x.1 h.2 h.1.1.1.2
    rw [List.length_cons]
    omega
theorem valB_long {h c : Int} {l : List Ln} (hl : 1200 < l.length) : valB (h, c, l) = false := by
  cases e : lnsB (-1) l
  · simp [valB, e]
  · have := lnsB_len l (-1) e (by omega)
    omega
end RW
theorem mono_quiet {f : Nat} {args : Array Value} {w : World} {v : Value} {n : Nat} (h : Calls Try.prog f args (w.drewN n) fun e w' => e = .returned v ∧ w.drewN n = w') : Calls Try.prog f args (w.drewN n) fun e w' => e = .returned v ∧ ∃ m, w' = w.drewN m :=
  h.mono fun _ _ ⟨he, hm⟩ => ⟨he, n, hm.symm⟩
section
variable {ev : Operand → Value} {o : Oper} {x y : Operand} {w : World} {a b : Int} {q : Bool}
theorem op_lss0 (ho : o.op = .binOp .lss 3 x y 3) (hx : ev x = .int .i64 a) (hy : ev y = .int .i64 b) (hq : q = decide (a < b)) : (execOp ev o).run Try.prog w = .ok (.value (.bool q)) w := hq ▸ op_lss ho hx hy
theorem op_geq0 (ho : o.op = .binOp .geq 3 x y 3) (hx : ev x = .int .i64 a) (hy : ev y = .int .i64 b) (hq : q = decide (b ≤ a)) : (execOp ev o).run Try.prog w = .ok (.value (.bool q)) w := hq ▸ op_geq ho hx hy
theorem op_gtr0 (ho : o.op = .binOp .gtr 3 x y 3) (hx : ev x = .int .i64 a) (hy : ev y = .int .i64 b) (hq : q = decide (b < a)) : (execOp ev o).run Try.prog w = .ok (.value (.bool q)) w := hq ▸ op_gtr ho hx hy
theorem op_leq0 (ho : o.op = .binOp .leq 3 x y 3) (hx : ev x = .int .i64 a) (hy : ev y = .int .i64 b) (hq : q = decide (a ≤ b)) : (execOp ev o).run Try.prog w = .ok (.value (.bool q)) w := hq ▸ op_leq ho hx hy
theorem op_eqi0 (ho : o.op = .binOp .eql 3 x y 3) (hx : ev x = .int .i64 a) (hy : ev y = .int .i64 b) (hq : q = decide (a = b)) : (execOp ev o).run Try.prog w = .ok (.value (.bool q)) w := hq ▸ op_eqi ho hx hy
theorem op_sub0 {j : Nat} (ho : o.op = .binOp .sub 3 x y 3) (hx : ev x = .int .i64 (j : Int)) (hy : ev y = .int .i64 1) (h1 : 1 ≤ j) (hj : j ≤ 1000000) : (execOp ev o).run Try.prog w = .ok (.value (.int .i64 ((j - 1 : Nat) : Int))) w := by
  obtain ⟨k, rfl⟩ : ∃ k, j = k + 1 := ⟨j - 1, by omega⟩
  exact op_sub1 ho hx hy (by omega)
end
set_option maxRecDepth 10000 in
set_option maxHeartbeats 8000000 in
theorem rvalid_any (h c : Int) (v : Value) (l : List RW.Ln) (hl : l.length ≤ 100000) (w : World) (hv : LnsV w v l) :
    Calls Try.prog 38 #[.agg #[.int .i64 h, .int .i64 c, v]] w fun e w' => e = .returned (.bool (RW.valB (h, c, l))) ∧ Below w.heap.size w w' := by
  obtain ⟨a, ca, rfl, hca, ha⟩ := hv
  obtain ⟨n, hn⟩ : ∃ n, n = l.length := ⟨_, rfl⟩
  obtain ⟨B, hBe⟩ : ∃ B, B = w.heap.size := ⟨_, rfl⟩
  obtain ⟨q, hq⟩ : ∃ q, q = RW.valB (h, c, l) := ⟨_, rfl⟩
  rw [← hq]
  rw [← hn] at hl ⊢
  have hqH := hide hq
  have hnH := hide hn
  have haH := hide ha
  have hBH := hide hBe
  have hB0 := hide (Nat.le_of_eq hBe)
  have hA0 := hide (alloc_bel (Below.refl w.heap.size w) (Nat.le_refl _) (.cells #[.int .i64 h, .int .i64 c, .slice a n ca] 39))
  have hs0 := hide (alloc_at1 w (.cells #[.int .i64 h, .int .i64 c, .slice a n ca] 39))
  rw [← hBe] at hA0 hs0 ⊢
  have hz := hide (show q = true ↔ RW.lnsB (-1) l = true ∧ 1 ≤ h ∧ h ≤ 1000000 ∧ 0 ≤ c ∧ c < 1200 ∧ 1 ≤ n by rw [hqH.out, RW.valB, stmt_val, ← hnH.out])
  have hlong := hide (fun (e : 1200 < n) => (show q = false by rw [hqH.out]; exact RW.valB_long (by rw [← hnH.out]; exact e)))
  clear ha hn hca hq
  go_enter Try.func38, Try.ntmps38
  go_upto_region 1 with fail
  rw [← hBe]
  clear hBe
  refine gen_w (fun W => Below B w W ∧ W.heap[B]? = some (.cells #[.int .i64 h, .int .i64 c, .slice a n ca] 39 (0, 0))) ⟨hA0.out, hs0.out⟩ ?_
  clear hA0 hs0
  rintro w1 ⟨g1, g2⟩
  have e0 : w1.cell? ⟨B, 0, none⟩ = some (.int .i64 h) := cellAt g2 0
  have e1 : w1.cell? ⟨B, 1, none⟩ = some (.int .i64 c) := cellAt g2 1
  have e2 : w1.cell? ⟨B, 2, none⟩ = some (.slice a n ca) := cellAt g2 2
  have hBw := hide g1
  have hsB := hide g2
  clear g1 g2
  by_cases q1 : h < 1
  · have hno := hide (show q = false from by rw [← Bool.not_eq_true, hz.out]; omega)
    go_wp2
    go_ret
    exact ⟨by rw [hno.out] <;> rfl, hBH.out ▸ hBw.out⟩
  by_cases q2 : 1000000 < h
  · have hno := hide (show q = false from by rw [← Bool.not_eq_true, hz.out]; omega)
    go_wp2
    go_ret
    exact ⟨by rw [hno.out] <;> rfl, hBH.out ▸ hBw.out⟩
  by_cases q3 : c < 0
  · have hno := hide (show q = false from by rw [← Bool.not_eq_true, hz.out]; omega)
    go_wp2
    go_ret
    exact ⟨by rw [hno.out] <;> rfl, hBH.out ▸ hBw.out⟩
  by_cases q4 : 1200 ≤ c
  · have hno := hide (show q = false from by rw [← Bool.not_eq_true, hz.out]; omega)
    go_wp2
    go_ret
    exact ⟨by rw [hno.out] <;> rfl, hBH.out ▸ hBw.out⟩
  by_cases q5 : n < 1
  · have hno := hide (show q = false from by rw [← Bool.not_eq_true, hz.out]; omega)
    go_wp2
    go_ret
    exact ⟨by rw [hno.out] <;> rfl, hBH.out ▸ hBw.out⟩
  by_cases q6 : 1200 < n
  · have hno := hide (hlong.out q6)
    go_wp2
    go_ret
    exact ⟨by rw [hno.out] <;> rfl, hBH.out ▸ hBw.out⟩
  have hz1 := hide (show q = RW.lnsB (-1) l by
    rw [Bool.eq_iff_iff, hz.out]
    exact ⟨fun e => e.1, fun e => ⟨e, by omega, by omega, by omega, by omega, by omega⟩⟩)
  go_wp2
  go_loopw [3] (fun i wr => ∃ (j : Nat) (z : Int), i = .int .i64 j ∧ j ≤ n ∧ Hid (RW.lnsB (-1) l = RW.lnsB z (l.drop j) ∧ Below B w wr ∧ wr.heap[B]? = some (.cells #[.int .i64 h, .int .i64 c, .slice a n ca] 39 (0, 0)) ∧ (j = 0 → z = -1) ∧ (∀ k, j = k + 1 → 0 ≤ z ∧ ∃ y, l[k]? = some y ∧ y.1 = z))) (fun i _ => n - (intOf i).toNat)
  case atStart => exact ⟨0, -1, rfl, Nat.zero_le _, rfl, hBw.out, hsB.out, fun _ => rfl, fun k hk => by cases hk⟩
  case round =>
    obtain ⟨j, z, rfl, hjn, hQ⟩ := hrel
    obtain ⟨wo, hwo⟩ : ∃ wo, wo = wr := ⟨_, rfl⟩
    subst hwo
    clear e0 e1 e2 hBw hsB
    have hzH := hide hQ.out.1
    have hBw := hide hQ.out.2.1
    have hsB := hide hQ.out.2.2.1
    have hj0 := hide hQ.out.2.2.2.1
    have hjs := hide hQ.out.2.2.2.2
    have e2 : wo.cell? ⟨B, 2, none⟩ = some (.slice a n ca) := cellAt hsB.out 2
    clear hQ
    by_cases hlt : j < n
    · obtain ⟨x, hx⟩ : ∃ x, l[j]? = some x := ⟨_, List.getElem?_eq_getElem (by rw [← hnH.out]; exact hlt)⟩
      obtain ⟨b, o, rfl, hb, hc⟩ := haH.out.resolve_left (by rintro rfl; simp at hx)
      have hrg : wo.rangeAt b (o + j * 3) (RW.lnl x) := fun i u hu => (World.cell?_of_block (a := ⟨b, o + j * 3 + i, none⟩) (hBw.out.block _ (by rw [hBH.out]; exact hb))).trans (hc j x hx i u hu)
      have hps := ln_size x
      have hpo := ln_one x
      have hdr := hide (show RW.lnsB (-1) l = (decide (z < x.1) && decide (x.1 < 1200) && RW.monL x && RW.dif x && RW.lnsB x.1 (l.drop (j + 1))) by
        rw [hzH.out, List.drop_eq_getElem_cons (by rw [← hnH.out]; exact hlt), (List.getElem?_eq_some_iff.1 hx).2]
        rfl)
      obtain ⟨bx, hbx⟩ : ∃ b, b = wo.heap.size := ⟨_, rfl⟩
      have hg0 := hide (show (wo.alloc (.cells (RW.lnl x).toArray 61)).heap[bx]? = some (.cells (RW.lnl x).toArray 61 (0, 0)) from newAt hbx)
      have hgs := hide (show (wo.alloc (.cells (RW.lnl x).toArray 61)).heap[B]? = some (.cells #[.int .i64 h, .int .i64 c, .slice (some ⟨b, o, none⟩) n ca] 39 (0, 0)) from (alloc_bel (Below.refl wo.heap.size wo) (Nat.le_refl _) _).block _ (Array.getElem?_eq_some_iff.1 hsB.out).1 |>.trans hsB.out)
      have hbxH := hide hbx
      have hxH := hide hx
      have hprev := hide (fun W (hW : Below B w W) k (hk : j = k + 1) => (show ∃ y : RW.Ln, y.1 = z ∧ W.cell? ⟨b, o + k * 3, none⟩ = some (.int .i64 y.1) from by
        obtain ⟨_, y, hy, hyz⟩ := hjs.out k hk
        exact ⟨y, hyz, (World.cell?_of_block (a := ⟨b, o + k * 3, none⟩) (hW.block _ (by rw [hBH.out]; exact hb))).trans (hc k y hy 0 _ rfl)⟩))
      clear hbx hx hb hc
      go_upto_region 7 with (first
        | (refine wpList_load_mid rfl 61 (.tmp 45) rfl b (o + j * 3) rfl (RW.lnl x) _ hrg Try.underlying61 rfl hps ?_)
        | (refine wpListStoreNew rfl 61 (.tmp 4) (.tmp 46) rfl (RW.lnl x).toArray rfl rfl 61 _ hps rfl hpo ?_))
      refine gen_w (fun W => W.heap[bx]? = some (.cells (RW.lnl x).toArray 61 (0, 0)) ∧ Below B w W ∧ W.heap[B]? = some (.cells #[.int .i64 h, .int .i64 c, .slice (some ⟨b, o, none⟩) n ca] 39 (0, 0))) ⟨hg0.out, alloc_bel hBw.out hB0.out _, hgs.out⟩ ?_
      rw [← hbxH.out]
      clear hg0 hBw hbxH hrg hps hpo hsB hgs e2
      rintro w5 ⟨g1, g2, g3⟩
      have c0 : w5.cell? ⟨bx, 0, none⟩ = some (.int .i64 x.1) := cellAt g1 0
      have c1 : w5.cell? ⟨bx, 1, none⟩ = some (.int .i64 x.2.1) := cellAt g1 1
      have c2 : w5.cell? ⟨bx, 2, none⟩ = some (.int .i64 x.2.2) := cellAt g1 2
      have e2 : w5.cell? ⟨B, 2, none⟩ = some (.slice (some ⟨b, o, none⟩) n ca) := cellAt g3 2
      have hBw := hide g2
      have hsB := hide g3
      have hdB := hide (fun m => (show Below B w (w5.drewN m) from ⟨g2.os, g2.tape, g2.output, g2.size, g2.block⟩))
      clear g1 g2 g3
      obtain ⟨p0, hp0⟩ : ∃ p, p = x.1 := ⟨_, rfl⟩
      obtain ⟨p1, hp1⟩ : ∃ p, p = x.2.1 := ⟨_, rfl⟩
      obtain ⟨p2, hp2⟩ : ∃ p, p = x.2.2 := ⟨_, rfl⟩
      have hp0H := hide hp0
      rw [← hp0] at c0 hdr
      rw [← hp1] at c1
      rw [← hp2] at c2
      obtain ⟨m1, hm1⟩ : ∃ m, m = RW.mon p1 := ⟨_, rfl⟩
      obtain ⟨m2, hm2⟩ : ∃ m, m = RW.mon p2 := ⟨_, rfl⟩
      have hM1 := hide (fun w => rmoney_any p1 w)
      have hM2 := hide (fun w => rmoney_any p2 w)
      rw [← hm1] at hM1
      rw [← hm2] at hM2
      have hL := hide (show RW.monL x = (m1 && m2) by rw [hm1, hm2, hp1, hp2]; rfl)
      have hD := hide (show RW.dif x = decide (p1 ≠ p2) by rw [hp1, hp2]; rfl)
      clear hp0 hp1 hp2 hm1 hm2
      obtain ⟨q0, hq0⟩ : ∃ q, q = decide (p0 < 0) := ⟨_, rfl⟩
      obtain ⟨q1, hq1⟩ : ∃ q, q = decide (1200 ≤ p0) := ⟨_, rfl⟩
      obtain ⟨q3, hq3⟩ : ∃ q, q = decide (p1 = p2) := ⟨_, rfl⟩
      obtain ⟨q4, hq4⟩ : ∃ q, q = decide ((0 : Int) < (j : Int)) := ⟨_, rfl⟩
      obtain ⟨q5, hq5⟩ : ∃ q, q = decide (p0 ≤ z) := ⟨_, rfl⟩
      obtain ⟨r1, hr1⟩ : ∃ r, r = (q0 || q1) := ⟨_, rfl⟩
      obtain ⟨r2, hr2⟩ : ∃ r, r = (r1 || !m1) := ⟨_, rfl⟩
      obtain ⟨r3, hr3⟩ : ∃ r, r = (r2 || !m2) := ⟨_, rfl⟩
      obtain ⟨r4, hr4⟩ : ∃ r, r = (r3 || q3) := ⟨_, rfl⟩
      obtain ⟨r5, hr5⟩ : ∃ r, r = (r4 || (q4 && q5)) := ⟨_, rfl⟩
      have hjn1 := hide (show j < n from hlt)
      have hjp := hide (fun (hq : (!r4 && q4) = true) => (show 1 ≤ j ∧ j ≤ 1000000 ∧ j - 1 < n from by
        have h4 : q4 = true := by revert hq; cases r4 <;> cases q4 <;> simp
        rw [hq4, decide_eq_true_eq] at h4
        omega))
      have cellsH := hide (fun w' (hS : ∃ m, w' = w5.drewN m) => (show w'.cell? ⟨bx, 0, none⟩ = some (.int .i64 p0) ∧ w'.cell? ⟨bx, 1, none⟩ = some (.int .i64 p1) ∧ w'.cell? ⟨bx, 2, none⟩ = some (.int .i64 p2) ∧ w'.cell? ⟨B, 2, none⟩ = some (.slice (some ⟨b, o, none⟩) n ca) ∧ (1 ≤ j → w'.cell? ⟨b, o + (j - 1) * 3, none⟩ = some (.int .i64 z)) from by
        obtain ⟨m, rfl⟩ := hS
        refine ⟨c0, c1, c2, e2, fun hj1 => ?_⟩
        obtain ⟨y, hyz, e9⟩ := hprev.out w5 hBw.out (j - 1) (by omega)
        rw [hyz] at e9
        exact e9))
      have hq0H := hide hq0
      have hq1H := hide hq1
      have hq3H := hide hq3
      have hq4H := hide hq4
      have hq5H := hide hq5
      have hr1H := hide (show (if q0 = true then Value.bool true else gd (!q0) (.bool q1)) = .bool r1 by rw [hr1]; cases q0 <;> rfl)
      have hr2H := hide (show (if r1 = true then Value.bool true else gd (!r1) (.bool (!m1))) = .bool r2 by rw [hr2]; cases r1 <;> rfl)
      have hr3H := hide (show (if r2 = true then Value.bool true else gd (!r2) (.bool (!m2))) = .bool r3 by rw [hr3]; cases r2 <;> rfl)
      have hr4H := hide (show (if r3 = true then Value.bool true else gd (!r3) (.bool q3)) = .bool r4 by rw [hr4]; cases r3 <;> rfl)
      have hr5H := hide (show (if r4 = true then Value.bool true else gd (!r4) (.bool (q4 && q5))) = .bool r5 by rw [hr5]; cases r4 <;> rfl)
      have hp41 := hide (fun (hq : (!r4) = true) => (show (if q4 = true then gd (!r4 && q4) (Value.bool q5) else .bool false) = .bool (q4 && q5) from by
        revert hq
        cases r4 <;> cases q4 <;> intro hq <;> first | rfl | cases hq))
      have hall := hide (show r5 = true ↔ ¬ (0 ≤ p0 ∧ p0 < 1200 ∧ m1 = true ∧ m2 = true ∧ p1 ≠ p2 ∧ (1 ≤ j → z < p0)) by
        rw [hr5, hr4, hr3, hr2, hr1, hq0, hq1, hq3, hq4, hq5]
        simp only [Bool.or_eq_true, Bool.and_eq_true, decide_eq_true_eq, Bool.not_eq_true']
        cases m1 <;> cases m2 <;> simp <;> omega)
      clear c0 c1 c2 e2 hq0 hq1 hq3 hq4 hq5 hr1 hr2 hr3 hr4 hr5
      simp only [Act.put]
      go_cut [89] (fun s wx => s = .bool r5 ∧ ∃ m, wx = w5.drewN m)
      case first =>
        refine wp_region_staged (fun _ w' => ∃ m, w' = w5.drewN m) [] (by kernel_rfl) (by kernel_rfl) (by rfl) ⟨1, rfl⟩ ?_
        refine st_op (.pointer (some ⟨bx, 0, none⟩)) (by rfl) (by rfl) (fun j' w' _ hS => by rw [op_fa rfl rfl (fa_ln0 w')]; exact ⟨rfl, hS⟩) ?_
        simp only [Act.put, List.setIfInBounds_toArray, List.set_cons_zero, List.set_cons_succ]
        refine st_op (.int .i64 p0) (by rfl) (by rfl) (fun j' w' _ hS => by rw [op_ld rfl rfl (int_ld (cellsH.out w' hS).1)]; exact ⟨rfl, hS⟩) ?_
        simp only [Act.put, List.setIfInBounds_toArray, List.set_cons_zero, List.set_cons_succ]
        refine st_op (.bool q0) (by rfl) (by rfl) (fun j' w' _ hS => by rw [op_lss0 rfl rfl rfl hq0H.out]; exact ⟨rfl, hS⟩) ?_
        simp only [Act.put, List.setIfInBounds_toArray, List.set_cons_zero, List.set_cons_succ]
        refine st_op (.bool q0) (by rfl) (by rfl) (fun j' w' _ hS => by rw [op_mv rfl rfl]; exact ⟨rfl, hS⟩) ?_
        simp only [Act.put, List.setIfInBounds_toArray, List.set_cons_zero, List.set_cons_succ]
        refine st_if (!q0) (.pointer (some ⟨bx, 0, none⟩)) (by cases q0 <;> rfl) (by rfl) (fun hq j' w' _ hS => by rw [op_fa rfl rfl (fa_ln0 w')]; exact ⟨rfl, hS⟩) ?_
        simp only [Act.put, List.setIfInBounds_toArray, List.set_cons_zero, List.set_cons_succ]
        refine st_if (!q0) (.int .i64 p0) (by cases q0 <;> rfl) (by rfl) (fun hq j' w' _ hS => by rw [op_ld rfl (gd_pos hq) (int_ld (cellsH.out w' hS).1)]; exact ⟨rfl, hS⟩) ?_
        simp only [Act.put, List.setIfInBounds_toArray, List.set_cons_zero, List.set_cons_succ]
        refine st_if (!q0) (.bool q1) (by cases q0 <;> rfl) (by rfl) (fun hq j' w' _ hS => by rw [op_geq0 rfl (gd_pos hq) rfl hq1H.out]; exact ⟨rfl, hS⟩) ?_
        simp only [Act.put, List.setIfInBounds_toArray, List.set_cons_zero, List.set_cons_succ]
        refine st_op (.bool r1) (by rfl) (by rfl) (fun j' w' _ hS => by rw [op_pk rfl rfl rfl rfl hr1H.out]; exact ⟨rfl, hS⟩) ?_
        simp only [Act.put, List.setIfInBounds_toArray, List.set_cons_zero, List.set_cons_succ]
        refine st_op (.bool r1) (by rfl) (by rfl) (fun j' w' _ hS => by rw [op_mv rfl rfl]; exact ⟨rfl, hS⟩) ?_
        simp only [Act.put, List.setIfInBounds_toArray, List.set_cons_zero, List.set_cons_succ]
        refine st_if (!r1) (.pointer (some ⟨bx, 1, none⟩)) (by cases r1 <;> rfl) (by rfl) (fun hq j' w' _ hS => by rw [op_fa rfl rfl (fa_ln1 w')]; exact ⟨rfl, hS⟩) ?_
        simp only [Act.put, List.setIfInBounds_toArray, List.set_cons_zero, List.set_cons_succ]
        refine st_if (!r1) (.int .i64 p1) (by cases r1 <;> rfl) (by rfl) (fun hq j' w' _ hS => by rw [op_ld rfl (gd_pos hq) (int_ld (cellsH.out w' hS).2.1)]; exact ⟨rfl, hS⟩) ?_
        simp only [Act.put, List.setIfInBounds_toArray, List.set_cons_zero, List.set_cons_succ]
        refine st_if (!r1) (.bool m1) (by cases r1 <;> rfl) (by rfl) (fun hq j' w' _ hS => by rw [op_call1 rfl rfl (gd_pos hq) cf_rmoney]; exact (hM1.out w').mono fun e w2 h => by obtain ⟨rfl, rfl⟩ := h; exact ⟨rfl, hS⟩) ?_
        simp only [Act.put, List.setIfInBounds_toArray, List.set_cons_zero, List.set_cons_succ]
        refine st_if (!r1) (.bool (!m1)) (by cases r1 <;> rfl) (by rfl) (fun hq j' w' _ hS => by rw [op_not rfl (gd_pos hq)]; exact ⟨rfl, hS⟩) ?_
        simp only [Act.put, List.setIfInBounds_toArray, List.set_cons_zero, List.set_cons_succ]
        refine st_op (.bool r2) (by rfl) (by rfl) (fun j' w' _ hS => by rw [op_pk rfl rfl rfl rfl hr2H.out]; exact ⟨rfl, hS⟩) ?_
        simp only [Act.put, List.setIfInBounds_toArray, List.set_cons_zero, List.set_cons_succ]
        refine st_op (.bool r2) (by rfl) (by rfl) (fun j' w' _ hS => by rw [op_mv rfl rfl]; exact ⟨rfl, hS⟩) ?_
        simp only [Act.put, List.setIfInBounds_toArray, List.set_cons_zero, List.set_cons_succ]
        refine st_if (!r2) (.pointer (some ⟨bx, 2, none⟩)) (by cases r2 <;> rfl) (by rfl) (fun hq j' w' _ hS => by rw [op_fa rfl rfl (fa_ln2 w')]; exact ⟨rfl, hS⟩) ?_
        simp only [Act.put, List.setIfInBounds_toArray, List.set_cons_zero, List.set_cons_succ]
        refine st_if (!r2) (.int .i64 p2) (by cases r2 <;> rfl) (by rfl) (fun hq j' w' _ hS => by rw [op_ld rfl (gd_pos hq) (int_ld (cellsH.out w' hS).2.2.1)]; exact ⟨rfl, hS⟩) ?_
        simp only [Act.put, List.setIfInBounds_toArray, List.set_cons_zero, List.set_cons_succ]
        refine st_if (!r2) (.bool m2) (by cases r2 <;> rfl) (by rfl) (fun hq j' w' _ hS => by rw [op_call1 rfl rfl (gd_pos hq) cf_rmoney]; exact (hM2.out w').mono fun e w2 h => by obtain ⟨rfl, rfl⟩ := h; exact ⟨rfl, hS⟩) ?_
        simp only [Act.put, List.setIfInBounds_toArray, List.set_cons_zero, List.set_cons_succ]
        refine st_if (!r2) (.bool (!m2)) (by cases r2 <;> rfl) (by rfl) (fun hq j' w' _ hS => by rw [op_not rfl (gd_pos hq)]; exact ⟨rfl, hS⟩) ?_
        simp only [Act.put, List.setIfInBounds_toArray, List.set_cons_zero, List.set_cons_succ]
        refine st_op (.bool r3) (by rfl) (by rfl) (fun j' w' _ hS => by rw [op_pk rfl rfl rfl rfl hr3H.out]; exact ⟨rfl, hS⟩) ?_
        simp only [Act.put, List.setIfInBounds_toArray, List.set_cons_zero, List.set_cons_succ]
        refine st_op (.bool r3) (by rfl) (by rfl) (fun j' w' _ hS => by rw [op_mv rfl rfl]; exact ⟨rfl, hS⟩) ?_
        simp only [Act.put, List.setIfInBounds_toArray, List.set_cons_zero, List.set_cons_succ]
        refine st_if (!r3) (.pointer (some ⟨bx, 1, none⟩)) (by cases r3 <;> rfl) (by rfl) (fun hq j' w' _ hS => by rw [op_fa rfl rfl (fa_ln1 w')]; exact ⟨rfl, hS⟩) ?_
        simp only [Act.put, List.setIfInBounds_toArray, List.set_cons_zero, List.set_cons_succ]
        refine st_if (!r3) (.int .i64 p1) (by cases r3 <;> rfl) (by rfl) (fun hq j' w' _ hS => by rw [op_ld rfl (gd_pos hq) (int_ld (cellsH.out w' hS).2.1)]; exact ⟨rfl, hS⟩) ?_
        simp only [Act.put, List.setIfInBounds_toArray, List.set_cons_zero, List.set_cons_succ]
        refine st_if (!r3) (.pointer (some ⟨bx, 2, none⟩)) (by cases r3 <;> rfl) (by rfl) (fun hq j' w' _ hS => by rw [op_fa rfl rfl (fa_ln2 w')]; exact ⟨rfl, hS⟩) ?_
        simp only [Act.put, List.setIfInBounds_toArray, List.set_cons_zero, List.set_cons_succ]
        refine st_if (!r3) (.int .i64 p2) (by cases r3 <;> rfl) (by rfl) (fun hq j' w' _ hS => by rw [op_ld rfl (gd_pos hq) (int_ld (cellsH.out w' hS).2.2.1)]; exact ⟨rfl, hS⟩) ?_
        simp only [Act.put, List.setIfInBounds_toArray, List.set_cons_zero, List.set_cons_succ]
        refine st_if (!r3) (.bool q3) (by cases r3 <;> rfl) (by rfl) (fun hq j' w' _ hS => by rw [op_eqi0 rfl (gd_pos hq) (gd_pos hq) hq3H.out]; exact ⟨rfl, hS⟩) ?_
        simp only [Act.put, List.setIfInBounds_toArray, List.set_cons_zero, List.set_cons_succ]
        refine st_op (.bool r4) (by rfl) (by rfl) (fun j' w' _ hS => by rw [op_pk rfl rfl rfl rfl hr4H.out]; exact ⟨rfl, hS⟩) ?_
        simp only [Act.put, List.setIfInBounds_toArray, List.set_cons_zero, List.set_cons_succ]
        refine st_op (.bool r4) (by rfl) (by rfl) (fun j' w' _ hS => by rw [op_mv rfl rfl]; exact ⟨rfl, hS⟩) ?_
        simp only [Act.put, List.setIfInBounds_toArray, List.set_cons_zero, List.set_cons_succ]
        refine st_if (!r4) (.int .i64 (j : Int)) (by cases r4 <;> rfl) (by rfl) (fun hq j' w' _ hS => by rw [op_mv rfl rfl]; exact ⟨rfl, hS⟩) ?_
        simp only [Act.put, List.setIfInBounds_toArray, List.set_cons_zero, List.set_cons_succ]
        refine st_if (!r4) (.bool q4) (by cases r4 <;> rfl) (by rfl) (fun hq j' w' _ hS => by rw [op_gtr0 rfl (gd_pos hq) rfl hq4H.out]; exact ⟨rfl, hS⟩) ?_
        simp only [Act.put, List.setIfInBounds_toArray, List.set_cons_zero, List.set_cons_succ]
        refine st_if (!r4) (.bool q4) (by cases r4 <;> rfl) (by rfl) (fun hq j' w' _ hS => by rw [op_mv rfl (gd_pos hq)]; exact ⟨rfl, hS⟩) ?_
        simp only [Act.put, List.setIfInBounds_toArray, List.set_cons_zero, List.set_cons_succ]
        refine st_if (!r4 && q4) (.pointer (some ⟨bx, 0, none⟩)) (by cases r4 <;> cases q4 <;> rfl) (by rfl) (fun hq j' w' _ hS => by rw [op_fa rfl rfl (fa_ln0 w')]; exact ⟨rfl, hS⟩) ?_
        simp only [Act.put, List.setIfInBounds_toArray, List.set_cons_zero, List.set_cons_succ]
        refine st_if (!r4 && q4) (.int .i64 p0) (by cases r4 <;> cases q4 <;> rfl) (by rfl) (fun hq j' w' _ hS => by rw [op_ld rfl (gd_pos hq) (int_ld (cellsH.out w' hS).1)]; exact ⟨rfl, hS⟩) ?_
        simp only [Act.put, List.setIfInBounds_toArray, List.set_cons_zero, List.set_cons_succ]
        refine st_if (!r4 && q4) (.pointer (some ⟨B, 2, none⟩)) (by cases r4 <;> cases q4 <;> rfl) (by rfl) (fun hq j' w' _ hS => by rw [op_fa rfl rfl (fa_st2 w')]; exact ⟨rfl, hS⟩) ?_
        simp only [Act.put, List.setIfInBounds_toArray, List.set_cons_zero, List.set_cons_succ]
        refine st_if (!r4 && q4) (.slice (some ⟨b, o, none⟩) n ca) (by cases r4 <;> cases q4 <;> rfl) (by rfl) (fun hq j' w' _ hS => by rw [op_ld rfl (gd_pos hq) (lsl_ld (cellsH.out w' hS).2.2.2.1)]; exact ⟨rfl, hS⟩) ?_
        simp only [Act.put, List.setIfInBounds_toArray, List.set_cons_zero, List.set_cons_succ]
        refine st_if (!r4 && q4) (.int .i64 (j : Int)) (by cases r4 <;> cases q4 <;> rfl) (by rfl) (fun hq j' w' _ hS => by rw [op_mv rfl rfl]; exact ⟨rfl, hS⟩) ?_
        simp only [Act.put, List.setIfInBounds_toArray, List.set_cons_zero, List.set_cons_succ]
        refine st_if (!r4 && q4) (.int .i64 ((j - 1 : Nat) : Int)) (by cases r4 <;> cases q4 <;> rfl) (by rfl) (fun hq j' w' _ hS => by rw [op_sub0 rfl (gd_pos hq) rfl (hjp.out hq).1 (hjp.out hq).2.1]; exact ⟨rfl, hS⟩) ?_
        simp only [Act.put, List.setIfInBounds_toArray, List.set_cons_zero, List.set_cons_succ]
        refine st_if (!r4 && q4) (.pointer (some ⟨b, o + (j - 1) * 3, none⟩)) (by cases r4 <;> cases q4 <;> rfl) (by rfl) (fun hq j' w' _ hS => by rw [op_ix rfl (gd_pos hq) (gd_pos hq) (ix_ln (hjp.out hq).2.2 w')]; exact ⟨rfl, hS⟩) ?_
        simp only [Act.put, List.setIfInBounds_toArray, List.set_cons_zero, List.set_cons_succ]
        refine st_if (!r4 && q4) (.pointer (some ⟨b, o + (j - 1) * 3, none⟩)) (by cases r4 <;> cases q4 <;> rfl) (by rfl) (fun hq j' w' _ hS => by rw [op_fa rfl (gd_pos hq) (fa_ln0 w')]; exact ⟨rfl, hS⟩) ?_
        simp only [Act.put, List.setIfInBounds_toArray, List.set_cons_zero, List.set_cons_succ]
        refine st_if (!r4 && q4) (.int .i64 z) (by cases r4 <;> cases q4 <;> rfl) (by rfl) (fun hq j' w' _ hS => by rw [op_ld rfl (gd_pos hq) (int_ld ((cellsH.out w' hS).2.2.2.2 (hjp.out hq).1))]; exact ⟨rfl, hS⟩) ?_
        simp only [Act.put, List.setIfInBounds_toArray, List.set_cons_zero, List.set_cons_succ]
        refine st_if (!r4 && q4) (.bool q5) (by cases r4 <;> cases q4 <;> rfl) (by rfl) (fun hq j' w' _ hS => by rw [op_leq0 rfl (gd_pos hq) (gd_pos hq) hq5H.out]; exact ⟨rfl, hS⟩) ?_
        simp only [Act.put, List.setIfInBounds_toArray, List.set_cons_zero, List.set_cons_succ]
        refine st_if (!r4) (.bool (q4 && q5)) (by cases r4 <;> rfl) (by rfl) (fun hq j' w' _ hS => by rw [op_pk rfl (gd_pos hq) rfl rfl (hp41.out hq)]; exact ⟨rfl, hS⟩) ?_
        simp only [Act.put, List.setIfInBounds_toArray, List.set_cons_zero, List.set_cons_succ]
        refine st_op (.bool r5) (by rfl) (by rfl) (fun j' w' _ hS => by rw [op_pk rfl rfl rfl rfl hr5H.out]; exact ⟨rfl, hS⟩) ?_
        simp only [Act.put, List.setIfInBounds_toArray, List.set_cons_zero, List.set_cons_succ]
        refine st_nil ?_
        rintro w' hw'
        clear hjp cellsH
        go_wp2
        all_goals go_meet
        all_goals exact ⟨rfl, hw'⟩
      case rest =>
      obtain ⟨rfl, hw'⟩ := hcut
      have hdB' := hide (show Below B w wc by obtain ⟨m, rfl⟩ := hw'; exact hdB.out m)
      have hsB' := hide (show wc.heap[B]? = some (.cells #[.int .i64 h, .int .i64 c, .slice (some ⟨b, o, none⟩) n ca] 39 (0, 0)) by obtain ⟨m, rfl⟩ := hw'; exact hsB.out)
      clear hw' hsB hdB hjp cellsH hprev
      cases r5
      · obtain ⟨k0, k1, k2, k3, k4, k5⟩ : 0 ≤ p0 ∧ p0 < 1200 ∧ m1 = true ∧ m2 = true ∧ p1 ≠ p2 ∧ (1 ≤ j → z < p0) := Classical.byContradiction fun e => by
          have := hall.out.2 e
          cases this
        have hlz : z < p0 := by
          rcases j with _ | k
          · rw [hj0.out rfl]; omega
          · exact k5 (by omega)
        have hgo := hide (show RW.lnsB (-1) l = RW.lnsB p0 (l.drop (j + 1)) by rw [hdr.out, decide_eq_true hlz, decide_eq_true k1, hL.out, k2, k3, hD.out, decide_eq_true k4]; rfl)
        have k0H := hide k0
        have hnx := hide (fun k (hk : j + 1 = k + 1) => (show 0 ≤ p0 ∧ ∃ y, l[k]? = some y ∧ y.1 = p0 from by
          obtain rfl : k = j := by omega
          exact ⟨k0H.out, x, hxH.out, hp0H.out.symm⟩))
        clear k0 k1 k2 k3 k4 k5 hlz
        go_wp2
        go_roundw
        case rel => exact ⟨j + 1, p0, by go_num, by omega, hgo.out, hdB'.out, hsB'.out, (fun e => by cases e), hnx.out⟩
        case measure => simp [intOf]; omega
      · have hno := hide (show q = false by
          rw [hz1.out, hdr.out]
          have h1 := hall.out.1 rfl
          rw [Bool.eq_false_iff]
          intro h2
          simp only [Bool.and_eq_true, decide_eq_true_eq] at h2
          obtain ⟨⟨⟨⟨a1, a2⟩, a3⟩, a4⟩, _⟩ := h2
          rw [hL.out, Bool.and_eq_true] at a3
          rw [hD.out, decide_eq_true_eq] at a4
          refine h1 ⟨?_, a2, a3.1, a3.2, a4, fun _ => a1⟩
          rcases j with _ | k
          · have := hj0.out rfl; omega
          · have := (hjs.out k rfl).1; omega)
        go_wp2
        go_ret
        exact ⟨by rw [hno.out] <;> rfl, hBH.out ▸ hdB'.out⟩
    · obtain rfl : j = n := by omega
      have hno := hide (show q = true by
        have h1 := hzH.out
        rw [List.drop_eq_nil_of_le (by rw [← hnH.out]; exact Nat.le_refl _)] at h1
        rw [hz1.out, h1]
        rfl)
      go_wp2
      go_ret
      exact ⟨by rw [hno.out] <;> rfl, hBH.out ▸ hBw.out⟩
end Go.Proofs.Ytillplhadimgmaa

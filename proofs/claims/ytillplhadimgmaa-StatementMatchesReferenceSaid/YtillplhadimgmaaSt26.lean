/-
  Package royaltylaw19: StatementCodeMatchesReference: it returns true; only new memory is written.
-/
import Derived.Test.YtillplhadimgmaaSt25
import Derived.Test.YtillplhadimgmaaSt18
import Derived.Test.YtillplhadimgmaaSt3
namespace Go.Proofs.Ytillplhadimgmaa
open Go.RowKit RG
namespace RW
/-- what is decoded, as numbers -/
def gotV : Got → St × Int
  | .wire => ((0, 0, []), 10)
  | .bad => ((0, 0, []), 190)
  | .st s => (s, 0)
theorem gotV_len {r : List UInt8} : (gotV (decT r)).1.2.2.length ≤ 1200 := by
  cases h : decT r with
  | wire => simp [gotV]
  | bad => simp [gotV]
  | st s => exact (valB_facts (decT_take h).2).2.2
end RW
theorem DecOut.val {g : RW.Got} {e : Ending} {B : Nat} {w' : World} (h : DecOut g e B w') : ∃ v, e = .returned (.tuple #[.agg #[.int .i64 (RW.gotV g).1.1, .int .i64 (RW.gotV g).1.2.1, v], .int .i64 (RW.gotV g).2]) ∧ LnsO w' B v (RW.gotV g).1.2.2 := by
  cases g with
  | wire => exact ⟨_, h, LnsO.nil _ _⟩
  | bad => exact ⟨_, h, LnsO.nil _ _⟩
  | st s => exact h
section
variable {ev : Operand → Value} {o : Oper} {x y : Operand} {w : World}
theorem op_eqs {a : ByteArray} (ho : o.op = .binOp .eql 9 x y 9) (hx : ev x = .string a) (hy : ev y = .string a) : (execOp ev o).run Try.prog w = .ok (.value (.bool true)) w := by
  unfold execOp
  rw [ho]
  simp only [hx, hy]
  go_simp
theorem op_eqe {a : Int} (ho : o.op = .binOp .eql 47 x y 47) (hx : ev x = .int .i64 a) (hy : ev y = .int .i64 a) : (execOp ev o).run Try.prog w = .ok (.value (.bool true)) w := by
  unfold execOp
  rw [ho]
  simp only [hx, hy]
  go_simp
theorem op_eqb {a : Bool} (ho : o.op = .binOp .eql 4 x y 4) (hx : ev x = .bool a) (hy : ev y = .bool a) : (execOp ev o).run Try.prog w = .ok (.value (.bool true)) w := by
  unfold execOp
  rw [ho]
  simp only [hx, hy]
  go_simp
theorem op_eq1 {a : Int} (ho : o.op = .binOp .eql 3 x y 3) (hx : ev x = .int .i64 a) (hy : ev y = .int .i64 a) : (execOp ev o).run Try.prog w = .ok (.value (.bool true)) w := (op_eqi ho hx hy).trans (by rw [decide_eq_true rfl])
end
theorem cf_same : ∀ args w, (callFunc 24 args).run Try.prog w = .ok (.enter 24 args) w := fun args w => by go_simp
theorem cf_total : ∀ args w, (callFunc 15 args).run Try.prog w = .ok (.enter 15 args) w := fun args w => by go_simp
theorem cf_rtotal : ∀ args w, (callFunc 16 args).run Try.prog w = .ok (.enter 16 args) w := fun args w => by go_simp
theorem LnsV.cut {W : World} {a : Option Addr} {n c : Nat} {l : List RW.Ln} (h : LnsV W (.slice a n c) l) (m : Nat) (hm : m ≤ n) : LnsV W (.slice a m c) (l.take m) := by
  have hn : n = l.length := by
    obtain ⟨a', c', e, _⟩ := h
    cases e
    rfl
  exact RowV.first h m (by omega)
/-- two statements in blocks B and B + 1, others below -/
structure CoW (W : World) (B : Nat) (w : World) (h1 c1 : Int) (v1 : Value) (h2 c2 : Int) (v2 : Value) : Prop where
  b0 : W.heap[B]? = some (.cells #[.int .i64 h1, .int .i64 c1, v1] 39 (0, 0))
  b1 : W.heap[B + 1]? = some (.cells #[.int .i64 h2, .int .i64 c2, v2] 39 (0, 0))
  bel : Below B w W
theorem CoW.next {W W' : World} {B k : Nat} {w : World} {h1 c1 : Int} {v1 : Value} {h2 c2 : Int} {v2 : Value} (h : CoW W B w h1 c1 v1 h2 c2 v2) (hB : Below k W W') (hk : B + 1 < k) : CoW W' B w h1 c1 v1 h2 c2 v2 :=
  ⟨(hB.block _ (by omega)).trans h.b0, (hB.block _ (by omega)).trans h.b1, h.bel.trans (hB.mono (by omega))⟩
theorem CoW.lt {W : World} {B : Nat} {w : World} {h1 c1 : Int} {v1 : Value} {h2 c2 : Int} {v2 : Value} (h : CoW W B w h1 c1 v1 h2 c2 v2) : B + 1 < W.heap.size := (Array.getElem?_eq_some_iff.1 h.b1).1
set_option maxRecDepth 10000 in
set_option maxHeartbeats 8000000 in
theorem code_any (h1 c1 h2 c2 : Int) (v1 v2 : Value) (l1 l2 : List RW.Ln) (s : ByteArray) (hs : s.size ≤ 9223372036854775807) (w : World) (hv1 : LnsV w v1 l1) (hv2 : LnsV w v2 l2) :
    Calls Try.prog 4 #[.agg #[.int .i64 h1, .int .i64 c1, v1], .agg #[.int .i64 h2, .int .i64 c2, v2], .string s] w fun e w' => e = .returned (.bool true) ∧ Below w.heap.size w w' := by
  obtain ⟨B, hBe⟩ : ∃ B, B = w.heap.size := ⟨_, rfl⟩
  have hBH := hide hBe
  obtain ⟨a1, k1, rfl, hk1, _⟩ := id hv1
  obtain ⟨a2, k2, rfl, hk2, _⟩ := id hv2
  obtain ⟨n1, hn1⟩ : ∃ n, n = l1.length := ⟨_, rfl⟩
  obtain ⟨n2, hn2⟩ : ∃ n, n = l2.length := ⟨_, rfl⟩
  rw [← hn1] at hv1 hk1 ⊢
  rw [← hn2] at hv2 hk2 ⊢
  obtain ⟨m1, hm1⟩ : ∃ m, m = min n1 1210 := ⟨_, rfl⟩
  obtain ⟨m2, hm2⟩ : ∃ m, m = min n2 1210 := ⟨_, rfl⟩
  have hw1 := hide (hv1.cut m1 (by omega))
  have hw2 := hide (hv2.cut m2 (by omega))
  obtain ⟨L1, hL1⟩ : ∃ L, L = l1.take m1 := ⟨_, rfl⟩
  obtain ⟨L2, hL2⟩ : ∃ L, L = l2.take m2 := ⟨_, rfl⟩
  have hll1 := hide (show L1.length ≤ 1210 by rw [hL1, List.length_take]; omega)
  have hll2 := hide (show L2.length ≤ 1210 by rw [hL2, List.length_take]; omega)
  rw [← hL1] at hw1
  rw [← hL2] at hw2
  have hmi1 : (min (n1 : Int) 1210) = (m1 : Int) := by omega
  have hmi2 : (min (n2 : Int) 1210) = (m2 : Int) := by omega
  have hmn1 : m1 ≤ n1 := by omega
  have hmn2 : m2 ≤ n2 := by omega
  have hA0 := hide (show CoW ((w.alloc (.cells #[.int .i64 h1, .int .i64 c1, .slice a1 n1 k1] 39)).alloc (.cells #[.int .i64 h2, .int .i64 c2, .slice a2 n2 k2] 39)) B w h1 c1 (.slice a1 n1 k1) h2 c2 (.slice a2 n2 k2) from
    ⟨by rw [hBe]; exact alloc_old _ _ (alloc_at1 _ _), by rw [hBe, ← alloc_size w (.cells #[.int .i64 h1, .int .i64 c1, .slice a1 n1 k1] 39)]; exact alloc_at1 _ _, by rw [hBe]; exact alloc_bel (alloc_bel (Below.refl _ _) (Nat.le_refl _) _) (Nat.le_refl _) _⟩)
  have hS := hide (fun W => sane_any W)
  rw [← hBe]
  clear hn1 hn2 hm1 hm2 hL1 hL2 hv1 hv2
  go_enter Try.func4, Try.ntmps4
  go_upto_region 1 with fail
  rw [← hBe]
  refine gen_w (fun W => CoW W B w h1 c1 (.slice a1 n1 k1) h2 c2 (.slice a2 n2 k2)) hA0.out ?_
  clear hA0 hBe
  intro w1 hC1
  have hC1H := hide hC1
  clear hC1
  go_upto_region 2 with (go_at_call 8; refine (hS.out _).mono ?_; rintro e w2 ⟨rfl, hB2⟩; have hC2H := hide (hC1H.out.next hB2 hC1H.out.lt); clear hB2)
  have e0 : w2.cell? ⟨B, 2, none⟩ = some (.slice a1 n1 k1) := cellAt hC2H.out.b0 2
  have e1 : w2.cell? ⟨B + 1, 2, none⟩ = some (.slice a2 n2 k2) := cellAt hC2H.out.b1 2
  have f0 : w2.frozen? ⟨B, 2, none⟩ = false := by simp [World.frozen?, hC2H.out.b0]
  have f1 : w2.frozen? ⟨B + 1, 2, none⟩ = false := by simp [World.frozen?, hC2H.out.b1]
  have hC4 := hide (show CoW ((w2.setCell ⟨B, 2, none⟩ (.slice a1 m1 k1)).setCell ⟨B + 1, 2, none⟩ (.slice a2 m2 k2)) B w h1 c1 (.slice a1 m1 k1) h2 c2 (.slice a2 m2 k2) from by
    have h0 := hC2H.out
    have hb1 := (Below.heap_setCell w2 ⟨B, 2, none⟩ (.slice a1 m1 k1) (B + 1) (by show B + 1 ≠ B; omega)).trans h0.b1
    exact ⟨(Below.heap_setCell _ _ _ _ (by show B ≠ B + 1; omega)).trans ((heap_setCell_same _ _ _ _ _ _ h0.b0).trans rfl), (heap_setCell_same _ _ _ _ _ _ hb1).trans rfl, (h0.bel.setCell (p := ⟨B, 2, none⟩) (Nat.le_refl _) _).setCell (p := ⟨B + 1, 2, none⟩) (by show B ≤ B + 1; omega) _⟩)
  clear hC1H hC2H
  go_upto_region 4 with fail
  refine gen_w (fun W => CoW W B w h1 c1 (.slice a1 m1 k1) h2 c2 (.slice a2 m2 k2)) hC4.out ?_
  clear hC4 e0 e1 f0 f1 hmi1 hmi2 hmn1 hmn2 hk1 hk2 hS
  intro w4 hC4
  have hCx := hide (fun W (hW : Below w4.heap.size w4 W) => hC4.next hW hC4.lt)
  have hLx := hide (fun W (hW : Below w4.heap.size w4 W) => (show LnsV W (.slice a1 m1 k1) L1 ∧ LnsV W (.slice a2 m2 k2) L2 from ⟨hw1.out.next (hBH.out ▸ (hCx.out W hW).bel), hw2.out.next (hBH.out ▸ (hCx.out W hW).bel)⟩))
  have b0 := hC4.b0
  have hi1 := st_arr h1 c1 a1 m1 k1
  have r4 := hide (Below.refl w4.heap.size w4)
  obtain ⟨X, E, hXE⟩ : ∃ X E, RW.encRes (h1, c1, L1) = .tuple #[.string X, .int .i64 E] := by
    unfold RW.encRes
    split
    · exact ⟨_, _, rfl⟩
    · exact ⟨_, _, rfl⟩
  have hE1 := hide (fun W (hW : Below w4.heap.size w4 W) => encode_any h1 c1 (.slice a1 m1 k1) L1 (by have := hll1.out; omega) W (hLx.out W hW).1)
  have hE2 := hide (fun W (hW : Below w4.heap.size w4 W) => rencode_any h1 c1 (.slice a1 m1 k1) L1 (by have := hll1.out; omega) W (hLx.out W hW).1)
  rw [hXE] at hE1 hE2
  have hD1 := hide (fun W => decode_any s hs W)
  have hD2 := hide (fun W => rdecode_any s hs W)
  obtain ⟨⟨⟨p, q, ls⟩, E2⟩, hg⟩ : ∃ g, g = RW.gotV (RW.decT s.data.toList) := ⟨_, rfl⟩
  have hlsl := hide (show ls.length ≤ 1200 by have := RW.gotV_len (r := s.data.toList); rw [← hg] at this; exact this)
  have hV1 := hide (fun W e w' (h : DecOut (RW.decT s.data.toList) e W w') => (show ∃ v, e = .returned (.tuple #[.agg #[.int .i64 p, .int .i64 q, v], .int .i64 E2]) ∧ LnsO w' W v ls by have := h.val; rwa [← hg] at this))
  clear hXE hg hC4
  go_upto_region 5 with (first
    | (refine wpList_load_row rfl 39 (.tmp 3) rfl B rfl 39 _ (0, 0) _ b0 Try.underlying39 rfl hi1 ?_)
    | (go_at_call 20; refine (hE1.out _ r4.out).mono ?_; rintro e w5 ⟨rfl, hB5⟩; have r5 := hide hB5; clear hB5))
  have b05 := (hCx.out w5 r5.out).b0
  clear b0
  go_upto_region 6 with (first
    | (refine wpList_load_row rfl 39 (.tmp 3) rfl B rfl 39 _ (0, 0) _ b05 Try.underlying39 rfl hi1 ?_)
    | (go_at_call 21; refine (hE2.out _ r5.out).mono ?_; rintro e w6 ⟨rfl, hB6⟩; have r6 := hide (r5.out.trans (hB6.mono r5.out.size)); clear hB6))
  clear b05 hi1 hE1 hE2 r4 r5
  go_upto_region 7 with (go_at_call 22; refine (hD1.out _).mono ?_; rintro e w7 ⟨hO7, hB7⟩; obtain ⟨v7, rfl, hL7⟩ := hV1.out _ _ _ hO7; obtain ⟨a7, n7, e7⟩ := lnl_block hL7; subst e7; have hL7H := hide hL7; have r7 := hide (r6.out.trans (hB7.mono r6.out.size)); clear hL7 hB7 hO7)
  obtain ⟨D, hDe⟩ : ∃ D, D = w7.heap.size := ⟨_, rfl⟩
  have hA7 := hide (alloc_bel (Below.refl w7.heap.size w7) (Nat.le_refl _) (.cells #[.int .i64 p, .int .i64 q, .slice a7 ls.length n7] 39))
  have hG7 := hide (show (w7.alloc (.cells #[.int .i64 p, .int .i64 q, .slice a7 ls.length n7] 39)).heap[D]? = some (.cells #[.int .i64 p, .int .i64 q, .slice a7 ls.length n7] 39 (0, 0)) from newAt hDe)
  have r7' := hide (r7.out.trans (hA7.out.mono r7.out.size))
  rw [← hDe]
  refine gen_w (fun W => W.heap[D]? = some (.cells #[.int .i64 p, .int .i64 q, .slice a7 ls.length n7] 39 (0, 0)) ∧ LnsV W (.slice a7 ls.length n7) ls ∧ Below w4.heap.size w4 W) ⟨hG7.out, (hL7H.out.next hA7.out).row, r7'.out⟩ ?_
  clear hG7 hL7H r7' hA7 hDe r7 r6
  rintro w8 ⟨g1, g2, g3⟩
  have k1 := hide g1
  have k2 := hide g2
  have r8 := hide g3
  clear g1 g2 g3
  go_upto_region 8 with (go_at_call 23; refine (hD2.out _).mono ?_; rintro e w9 ⟨hO9, hB9⟩; obtain ⟨v9, rfl, hL9⟩ := hV1.out _ _ _ hO9; obtain ⟨a9, n9, e9⟩ := lnl_block hL9; subst e9; have hL9H := hide hL9; have hB9H := hide hB9; clear hL9 hB9 hO9)
  obtain ⟨F, hFe⟩ : ∃ D, D = w9.heap.size := ⟨_, rfl⟩
  have hA9 := hide (alloc_bel (Below.refl w9.heap.size w9) (Nat.le_refl _) (.cells #[.int .i64 p, .int .i64 q, .slice a9 ls.length n9] 39))
  have hG9 := hide (show (w9.alloc (.cells #[.int .i64 p, .int .i64 q, .slice a9 ls.length n9] 39)).heap[F]? = some (.cells #[.int .i64 p, .int .i64 q, .slice a9 ls.length n9] 39 (0, 0)) from newAt hFe)
  have hB89 := hide (hB9H.out.trans (hA9.out.mono hB9H.out.size))
  rw [← hFe]
  refine gen_w (fun W => W.heap[D]? = some (.cells #[.int .i64 p, .int .i64 q, .slice a7 ls.length n7] 39 (0, 0)) ∧ LnsV W (.slice a7 ls.length n7) ls ∧ W.heap[F]? = some (.cells #[.int .i64 p, .int .i64 q, .slice a9 ls.length n9] 39 (0, 0)) ∧ LnsV W (.slice a9 ls.length n9) ls ∧ Below w4.heap.size w4 W) ⟨(hB89.out.block _ (Array.getElem?_eq_some_iff.1 k1.out).1).trans k1.out, k2.out.next hB89.out, hG9.out, (hL9H.out.next hA9.out).row, r8.out.trans (hB89.out.mono r8.out.size)⟩ ?_
  clear hG9 hL9H hB89 hA9 hFe k1 k2 r8 hB9H hV1 hD1 hD2
  rintro wo ⟨g1, g2, g3, g4, g5⟩
  have hG := hide (fun W (hW : Below wo.heap.size wo W) => (show W.heap[D]? = some (.cells #[.int .i64 p, .int .i64 q, .slice a7 ls.length n7] 39 (0, 0)) ∧ LnsV W (.slice a7 ls.length n7) ls ∧ W.heap[F]? = some (.cells #[.int .i64 p, .int .i64 q, .slice a9 ls.length n9] 39 (0, 0)) ∧ LnsV W (.slice a9 ls.length n9) ls ∧ Below w4.heap.size w4 W from ⟨(hW.block _ (Array.getElem?_eq_some_iff.1 g1).1).trans g1, g2.next hW, (hW.block _ (Array.getElem?_eq_some_iff.1 g3).1).trans g3, g4.next hW, g5.trans (hW.mono g5.size)⟩))
  clear g1 g2 g3 g4 g5
  have hC := hide (fun W (hW : Below wo.heap.size wo W) => hCx.out W (hG.out W hW).2.2.2.2)
  have hL := hide (fun W (hW : Below wo.heap.size wo W) => hLx.out W (hG.out W hW).2.2.2.2)
  obtain ⟨qs, hqs⟩ : ∃ q, q = decide (h1 = h2 ∧ c1 = c2 ∧ L1 = L2) := ⟨_, rfl⟩
  obtain ⟨t, ht⟩ : ∃ t, t = RW.tot L1 := ⟨_, rfl⟩
  have hqsH := hide hqs
  have htH := hide ht
  clear hqs ht hCx hLx
  refine wp_region_k (fun _ W => Below wo.heap.size wo W) (fun _ => True) [14, 24, 27, 33, 37, 39] (.op 0 (.op 1 (.op 2 (.op 3 (.op 4 (.op 5 (.op 6 (.op 7 (.op 8 (.op 9 (.op 10 (.op 11 (.op 12 (.op 13 (.op 14 (.op 15 (.op 16 (.op 17 (.op 18 (.op 19 (.op 20 (.op 21 (.op 22 (.op 23 (.op 25 (.op 26 (.op 24 (.op 27 (.op 28 (.op 29 (.op 30 (.op 31 (.op 32 (.op 33 (.op 34 (.op 35 (.op 36 (.op 38 (.op 37 (.op 39 (.op 40 (.op 41 (.op 42 .nil))))))))))))))))))))))))))))))))))))))))))) (by kernel_rfl) (by kernel_rfl) (by rfl) (by kernel_rfl) (Below.refl wo.heap.size wo).drew trivial ?_
  refine k_val (.bool true) (by apply opN; repeat' (first | apply OpAt.z | apply OpAt.s)) (by rfl) (by rfl) (fun _ W hS => op_mv rfl rfl) ?_
  simp only [Act.put, List.setIfInBounds_toArray, List.set_cons_zero, List.set_cons_succ]
  refine k_val (.bool true) (by apply opN; repeat' (first | apply OpAt.z | apply OpAt.s)) (by rfl) (by rfl) (fun _ W hS => op_mv rfl rfl) ?_
  simp only [Act.put, List.setIfInBounds_toArray, List.set_cons_zero, List.set_cons_succ]
  refine k_val (.string X) (by apply opN; repeat' (first | apply OpAt.z | apply OpAt.s)) (by rfl) (by rfl) (fun _ W hS => op_mv rfl rfl) ?_
  simp only [Act.put, List.setIfInBounds_toArray, List.set_cons_zero, List.set_cons_succ]
  refine k_val (.string X) (by apply opN; repeat' (first | apply OpAt.z | apply OpAt.s)) (by rfl) (by rfl) (fun _ W hS => op_mv rfl rfl) ?_
  simp only [Act.put, List.setIfInBounds_toArray, List.set_cons_zero, List.set_cons_succ]
  refine k_val (.bool true) (by apply opN; repeat' (first | apply OpAt.z | apply OpAt.s)) (by rfl) (by rfl) (fun _ W hS => op_eqs rfl rfl rfl) ?_
  simp only [Act.put, List.setIfInBounds_toArray, List.set_cons_zero, List.set_cons_succ]
  refine k_val (.bool true) (by apply opN; repeat' (first | apply OpAt.z | apply OpAt.s)) (by rfl) (by rfl) (fun _ W hS => op_pk rfl rfl rfl rfl rfl) ?_
  simp only [Act.put, List.setIfInBounds_toArray, List.set_cons_zero, List.set_cons_succ]
  refine k_val (.bool true) (by apply opN; repeat' (first | apply OpAt.z | apply OpAt.s)) (by rfl) (by rfl) (fun _ W hS => op_mv rfl rfl) ?_
  simp only [Act.put, List.setIfInBounds_toArray, List.set_cons_zero, List.set_cons_succ]
  refine k_val (.int .i64 E) (by apply opN; repeat' (first | apply OpAt.z | apply OpAt.s)) (by rfl) (by rfl) (fun _ W hS => op_mv rfl rfl) ?_
  simp only [Act.put, List.setIfInBounds_toArray, List.set_cons_zero, List.set_cons_succ]
  refine k_val (.int .i64 E) (by apply opN; repeat' (first | apply OpAt.z | apply OpAt.s)) (by rfl) (by rfl) (fun _ W hS => op_mv rfl rfl) ?_
  simp only [Act.put, List.setIfInBounds_toArray, List.set_cons_zero, List.set_cons_succ]
  refine k_val (.bool true) (by apply opN; repeat' (first | apply OpAt.z | apply OpAt.s)) (by rfl) (by rfl) (fun _ W hS => op_eqe rfl rfl rfl) ?_
  simp only [Act.put, List.setIfInBounds_toArray, List.set_cons_zero, List.set_cons_succ]
  refine k_val (.bool true) (by apply opN; repeat' (first | apply OpAt.z | apply OpAt.s)) (by rfl) (by rfl) (fun _ W hS => op_pk rfl rfl rfl rfl rfl) ?_
  simp only [Act.put, List.setIfInBounds_toArray, List.set_cons_zero, List.set_cons_succ]
  refine k_val (.bool true) (by apply opN; repeat' (first | apply OpAt.z | apply OpAt.s)) (by rfl) (by rfl) (fun _ W hS => op_mv rfl rfl) ?_
  simp only [Act.put, List.setIfInBounds_toArray, List.set_cons_zero, List.set_cons_succ]
  refine k_val (.agg #[.int .i64 p, .int .i64 q, .slice a7 ls.length n7]) (by apply opN; repeat' (first | apply OpAt.z | apply OpAt.s)) (by rfl) (by rfl) (fun _ W hS => op_ld rfl rfl (st_ld (x := (p, q, .slice a7 ls.length n7)) (st_row ((hG.out W hS).1)))) ?_
  simp only [Act.put, List.setIfInBounds_toArray, List.set_cons_zero, List.set_cons_succ]
  refine k_val (.agg #[.int .i64 p, .int .i64 q, .slice a9 ls.length n9]) (by apply opN; repeat' (first | apply OpAt.z | apply OpAt.s)) (by rfl) (by rfl) (fun _ W hS => op_ld rfl rfl (st_ld (x := (p, q, .slice a9 ls.length n9)) (st_row ((hG.out W hS).2.2.1)))) ?_
  simp only [Act.put, List.setIfInBounds_toArray, List.set_cons_zero, List.set_cons_succ]
  refine k_step (fun K' u => u = .bool true ∧ K' = fun _ => True) (by apply opN; repeat' (first | apply OpAt.z | apply OpAt.s)) (by rfl) (by rfl) (by rfl) (fun W hC' hK => ?_) ?_
  · refine op_x2 rfl rfl rfl rfl cf_rsame ?_
    refine (rsame_any p q p q (.slice a7 ls.length n7) (.slice a9 ls.length n9) ls ls (by have := hlsl.out; omega) (by have := hlsl.out; omega) W (hG.out W hC').2.1 (hG.out W hC').2.2.2.1).mono ?_
    rintro e W' ⟨rfl, h5⟩
    exact ⟨_, rfl, hC'.trans (h5.mono hC'.size), _, trivial, by rw [decide_eq_true ⟨rfl, rfl, rfl⟩], rfl⟩
  rintro _ _ ⟨rfl, rfl⟩
  simp only [Act.put, List.setIfInBounds_toArray, List.set_cons_zero, List.set_cons_succ]
  refine k_val (.bool true) (by apply opN; repeat' (first | apply OpAt.z | apply OpAt.s)) (by rfl) (by rfl) (fun _ W hS => op_pk rfl rfl rfl rfl rfl) ?_
  simp only [Act.put, List.setIfInBounds_toArray, List.set_cons_zero, List.set_cons_succ]
  refine k_val (.bool true) (by apply opN; repeat' (first | apply OpAt.z | apply OpAt.s)) (by rfl) (by rfl) (fun _ W hS => op_mv rfl rfl) ?_
  simp only [Act.put, List.setIfInBounds_toArray, List.set_cons_zero, List.set_cons_succ]
  refine k_val (.int .i64 E2) (by apply opN; repeat' (first | apply OpAt.z | apply OpAt.s)) (by rfl) (by rfl) (fun _ W hS => op_mv rfl rfl) ?_
  simp only [Act.put, List.setIfInBounds_toArray, List.set_cons_zero, List.set_cons_succ]
  refine k_val (.int .i64 E2) (by apply opN; repeat' (first | apply OpAt.z | apply OpAt.s)) (by rfl) (by rfl) (fun _ W hS => op_mv rfl rfl) ?_
  simp only [Act.put, List.setIfInBounds_toArray, List.set_cons_zero, List.set_cons_succ]
  refine k_val (.bool true) (by apply opN; repeat' (first | apply OpAt.z | apply OpAt.s)) (by rfl) (by rfl) (fun _ W hS => op_eqe rfl rfl rfl) ?_
  simp only [Act.put, List.setIfInBounds_toArray, List.set_cons_zero, List.set_cons_succ]
  refine k_val (.bool true) (by apply opN; repeat' (first | apply OpAt.z | apply OpAt.s)) (by rfl) (by rfl) (fun _ W hS => op_pk rfl rfl rfl rfl rfl) ?_
  simp only [Act.put, List.setIfInBounds_toArray, List.set_cons_zero, List.set_cons_succ]
  refine k_val (.bool true) (by apply opN; repeat' (first | apply OpAt.z | apply OpAt.s)) (by rfl) (by rfl) (fun _ W hS => op_mv rfl rfl) ?_
  simp only [Act.put, List.setIfInBounds_toArray, List.set_cons_zero, List.set_cons_succ]
  refine k_val (.agg #[.int .i64 h1, .int .i64 c1, .slice a1 m1 k1]) (by apply opN; repeat' (first | apply OpAt.z | apply OpAt.s)) (by rfl) (by rfl) (fun _ W hS => op_ld rfl rfl (st_ld (x := (h1, c1, .slice a1 m1 k1)) (st_row ((hC.out W hS).b0)))) ?_
  simp only [Act.put, List.setIfInBounds_toArray, List.set_cons_zero, List.set_cons_succ]
  refine k_val (.agg #[.int .i64 h2, .int .i64 c2, .slice a2 m2 k2]) (by apply opN; repeat' (first | apply OpAt.z | apply OpAt.s)) (by rfl) (by rfl) (fun _ W hS => op_ld rfl rfl (st_ld (x := (h2, c2, .slice a2 m2 k2)) (st_row ((hC.out W hS).b1)))) ?_
  simp only [Act.put, List.setIfInBounds_toArray, List.set_cons_zero, List.set_cons_succ]
  refine k_val (.agg #[.int .i64 h1, .int .i64 c1, .slice a1 m1 k1]) (by apply opN; repeat' (first | apply OpAt.z | apply OpAt.s)) (by rfl) (by rfl) (fun _ W hS => op_ld rfl rfl (st_ld (x := (h1, c1, .slice a1 m1 k1)) (st_row ((hC.out W hS).b0)))) ?_
  simp only [Act.put, List.setIfInBounds_toArray, List.set_cons_zero, List.set_cons_succ]
  refine k_val (.agg #[.int .i64 h2, .int .i64 c2, .slice a2 m2 k2]) (by apply opN; repeat' (first | apply OpAt.z | apply OpAt.s)) (by rfl) (by rfl) (fun _ W hS => op_ld rfl rfl (st_ld (x := (h2, c2, .slice a2 m2 k2)) (st_row ((hC.out W hS).b1)))) ?_
  simp only [Act.put, List.setIfInBounds_toArray, List.set_cons_zero, List.set_cons_succ]
  refine k_step (fun K' u => u = .bool qs ∧ K' = fun _ => True) (by apply opN; repeat' (first | apply OpAt.z | apply OpAt.s)) (by rfl) (by rfl) (by rfl) (fun W hC' hK => ?_) ?_
  · refine op_x2 rfl rfl rfl rfl cf_same ?_
    refine (ssame_any h1 c1 h2 c2 (.slice a1 m1 k1) (.slice a2 m2 k2) L1 L2 (by have := hll1.out; omega) (by have := hll2.out; omega) W (hL.out W hC').1 (hL.out W hC').2).mono ?_
    rintro e W' ⟨rfl, h5⟩
    exact ⟨_, rfl, hC'.trans (h5.mono hC'.size), _, trivial, by rw [hqsH.out], rfl⟩
  rintro _ _ ⟨rfl, rfl⟩
  simp only [Act.put, List.setIfInBounds_toArray, List.set_cons_zero, List.set_cons_succ]
  refine k_step (fun K' u => u = .bool qs ∧ K' = fun _ => True) (by apply opN; repeat' (first | apply OpAt.z | apply OpAt.s)) (by rfl) (by rfl) (by rfl) (fun W hC' hK => ?_) ?_
  · refine op_x2 rfl rfl rfl rfl cf_rsame ?_
    refine (rsame_any h1 c1 h2 c2 (.slice a1 m1 k1) (.slice a2 m2 k2) L1 L2 (by have := hll1.out; omega) (by have := hll2.out; omega) W (hL.out W hC').1 (hL.out W hC').2).mono ?_
    rintro e W' ⟨rfl, h5⟩
    exact ⟨_, rfl, hC'.trans (h5.mono hC'.size), _, trivial, by rw [hqsH.out], rfl⟩
  rintro _ _ ⟨rfl, rfl⟩
  simp only [Act.put, List.setIfInBounds_toArray, List.set_cons_zero, List.set_cons_succ]
  refine k_val (.bool true) (by apply opN; repeat' (first | apply OpAt.z | apply OpAt.s)) (by rfl) (by rfl) (fun _ W hS => op_eqb rfl rfl rfl) ?_
  simp only [Act.put, List.setIfInBounds_toArray, List.set_cons_zero, List.set_cons_succ]
  refine k_val (.bool true) (by apply opN; repeat' (first | apply OpAt.z | apply OpAt.s)) (by rfl) (by rfl) (fun _ W hS => op_pk rfl rfl rfl rfl rfl) ?_
  simp only [Act.put, List.setIfInBounds_toArray, List.set_cons_zero, List.set_cons_succ]
  refine k_val (.bool true) (by apply opN; repeat' (first | apply OpAt.z | apply OpAt.s)) (by rfl) (by rfl) (fun _ W hS => op_mv rfl rfl) ?_
  simp only [Act.put, List.setIfInBounds_toArray, List.set_cons_zero, List.set_cons_succ]
  refine k_val (.agg #[.int .i64 h1, .int .i64 c1, .slice a1 m1 k1]) (by apply opN; repeat' (first | apply OpAt.z | apply OpAt.s)) (by rfl) (by rfl) (fun _ W hS => op_ld rfl rfl (st_ld (x := (h1, c1, .slice a1 m1 k1)) (st_row ((hC.out W hS).b0)))) ?_
  simp only [Act.put, List.setIfInBounds_toArray, List.set_cons_zero, List.set_cons_succ]
  refine k_val (.agg #[.int .i64 h1, .int .i64 c1, .slice a1 m1 k1]) (by apply opN; repeat' (first | apply OpAt.z | apply OpAt.s)) (by rfl) (by rfl) (fun _ W hS => op_ld rfl rfl (st_ld (x := (h1, c1, .slice a1 m1 k1)) (st_row ((hC.out W hS).b0)))) ?_
  simp only [Act.put, List.setIfInBounds_toArray, List.set_cons_zero, List.set_cons_succ]
  refine k_step (fun K' u => u = .bool true ∧ K' = fun _ => True) (by apply opN; repeat' (first | apply OpAt.z | apply OpAt.s)) (by rfl) (by rfl) (by rfl) (fun W hC' hK => ?_) ?_
  · refine op_x2 rfl rfl rfl rfl cf_same ?_
    refine (ssame_any h1 c1 h1 c1 (.slice a1 m1 k1) (.slice a1 m1 k1) L1 L1 (by have := hll1.out; omega) (by have := hll1.out; omega) W (hL.out W hC').1 (hL.out W hC').1).mono ?_
    rintro e W' ⟨rfl, h5⟩
    exact ⟨_, rfl, hC'.trans (h5.mono hC'.size), _, trivial, by rw [decide_eq_true ⟨rfl, rfl, rfl⟩], rfl⟩
  rintro _ _ ⟨rfl, rfl⟩
  simp only [Act.put, List.setIfInBounds_toArray, List.set_cons_zero, List.set_cons_succ]
  refine k_val (.bool true) (by apply opN; repeat' (first | apply OpAt.z | apply OpAt.s)) (by rfl) (by rfl) (fun _ W hS => op_pk rfl rfl rfl rfl rfl) ?_
  simp only [Act.put, List.setIfInBounds_toArray, List.set_cons_zero, List.set_cons_succ]
  refine k_val (.bool true) (by apply opN; repeat' (first | apply OpAt.z | apply OpAt.s)) (by rfl) (by rfl) (fun _ W hS => op_mv rfl rfl) ?_
  simp only [Act.put, List.setIfInBounds_toArray, List.set_cons_zero, List.set_cons_succ]
  refine k_val (.agg #[.int .i64 h1, .int .i64 c1, .slice a1 m1 k1]) (by apply opN; repeat' (first | apply OpAt.z | apply OpAt.s)) (by rfl) (by rfl) (fun _ W hS => op_ld rfl rfl (st_ld (x := (h1, c1, .slice a1 m1 k1)) (st_row ((hC.out W hS).b0)))) ?_
  simp only [Act.put, List.setIfInBounds_toArray, List.set_cons_zero, List.set_cons_succ]
  refine k_val (.agg #[.int .i64 h1, .int .i64 c1, .slice a1 m1 k1]) (by apply opN; repeat' (first | apply OpAt.z | apply OpAt.s)) (by rfl) (by rfl) (fun _ W hS => op_ld rfl rfl (st_ld (x := (h1, c1, .slice a1 m1 k1)) (st_row ((hC.out W hS).b0)))) ?_
  simp only [Act.put, List.setIfInBounds_toArray, List.set_cons_zero, List.set_cons_succ]
  refine k_step (fun K' u => u = .int .i64 t ∧ K' = fun _ => True) (by apply opN; repeat' (first | apply OpAt.z | apply OpAt.s)) (by rfl) (by rfl) (by rfl) (fun W hC' hK => ?_) ?_
  · refine op_x1 rfl rfl rfl cf_total ?_
    refine (total_any h1 c1 (.slice a1 m1 k1) L1 (by have := hll1.out; omega) W (hL.out W hC').1).mono ?_
    rintro e W' ⟨rfl, h5⟩
    exact ⟨_, rfl, hC'.trans (h5.mono hC'.size), _, trivial, by rw [htH.out], rfl⟩
  rintro _ _ ⟨rfl, rfl⟩
  simp only [Act.put, List.setIfInBounds_toArray, List.set_cons_zero, List.set_cons_succ]
  refine k_step (fun K' u => u = .int .i64 t ∧ K' = fun _ => True) (by apply opN; repeat' (first | apply OpAt.z | apply OpAt.s)) (by rfl) (by rfl) (by rfl) (fun W hC' hK => ?_) ?_
  · refine op_x1 rfl rfl rfl cf_rtotal ?_
    refine (rtotal_any h1 c1 (.slice a1 m1 k1) L1 (by have := hll1.out; omega) W (hL.out W hC').1).mono ?_
    rintro e W' ⟨rfl, h5⟩
    exact ⟨_, rfl, hC'.trans (h5.mono hC'.size), _, trivial, by rw [htH.out], rfl⟩
  rintro _ _ ⟨rfl, rfl⟩
  simp only [Act.put, List.setIfInBounds_toArray, List.set_cons_zero, List.set_cons_succ]
  refine k_val (.bool true) (by apply opN; repeat' (first | apply OpAt.z | apply OpAt.s)) (by rfl) (by rfl) (fun _ W hS => op_eq1 rfl rfl rfl) ?_
  simp only [Act.put, List.setIfInBounds_toArray, List.set_cons_zero, List.set_cons_succ]
  refine k_val (.bool true) (by apply opN; repeat' (first | apply OpAt.z | apply OpAt.s)) (by rfl) (by rfl) (fun _ W hS => op_pk rfl rfl rfl rfl rfl) ?_
  simp only [Act.put, List.setIfInBounds_toArray, List.set_cons_zero, List.set_cons_succ]
  refine k_val (.bool true) (by apply opN; repeat' (first | apply OpAt.z | apply OpAt.s)) (by rfl) (by rfl) (fun _ W hS => op_asg rfl rfl) ?_
  simp only [Act.put, List.setIfInBounds_toArray, List.set_cons_zero, List.set_cons_succ]
  refine k_nil ?_
  intro W hCW _
  have hfin := hide (hC.out W hCW).bel
  clear hCW
  go_wp2
  go_ret
  exact ⟨rfl, hfin.out⟩
end Go.Proofs.Ytillplhadimgmaa

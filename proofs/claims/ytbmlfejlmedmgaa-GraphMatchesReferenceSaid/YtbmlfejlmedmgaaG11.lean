/-
  Package royaltylaw10: sane: it returns true; only new memory is written.
-/
import Derived.Test.YtbmlfejlmedmgaaG10
namespace Go.Proofs.Ytbmlfejlmedmgaa
open Go.RowKit RG
namespace RW
def L6 : List Ed := [(1, 7), (2, 7), (2, 8), (5, 9), (3, 9), (6, 1)]
theorem e1 : cAcc L6 1 = [1, 2] := by decide +kernel
theorem e2 : cDev L6 1 = [7, 8] := by decide +kernel
theorem e3 : cAcc L6 7 = [] := by decide +kernel
theorem e4 : cls L6 = [[1, 2], [3, 5], [6]] := by decide +kernel
theorem e5 : dgr L6 7 = 2 := by decide +kernel
theorem e6 : dgr L6 1 = 1 := by decide +kernel
theorem e7 : jn L6 1 2 = true := by decide +kernel
theorem e8 : jn L6 1 5 = false := by decide +kernel
theorem e9 : jn L6 7 7 = true := by decide +kernel
end RW
theorem RowV.ofBelow {α : Type} {k : Nat} {enc : α → List Value} {W W' : World} {v : Value} {l : List α} (h : RowV k enc W v l) (hB : Below W.heap.size W W') : RowV k enc W' v l := h.next hB
/-- a literal list of lists -/
theorem lit_ll (W : World) : LL ((((W.alloc (.cells #[.int .i64 1, .int .i64 2] 3)).alloc (.cells #[.int .i64 3, .int .i64 5] 3)).alloc (.cells #[.int .i64 6] 3)).alloc (.cells #[.slice (some ⟨W.heap.size, 0, none⟩) 2 2, .slice (some ⟨W.heap.size + 1, 0, none⟩) 2 2, .slice (some ⟨W.heap.size + 1 + 1, 0, none⟩) 1 1] 27)) (.slice (some ⟨W.heap.size + 1 + 1 + 1, 0, none⟩) 3 3) [[1, 2], [3, 5], [6]] := by
  obtain ⟨W1, h1⟩ : ∃ X, X = W.alloc (.cells #[.int .i64 1, .int .i64 2] 3) := ⟨_, rfl⟩
  obtain ⟨W2, h2⟩ : ∃ X, X = W1.alloc (.cells #[.int .i64 3, .int .i64 5] 3) := ⟨_, rfl⟩
  obtain ⟨W3, h3⟩ : ∃ X, X = W2.alloc (.cells #[.int .i64 6] 3) := ⟨_, rfl⟩
  obtain ⟨W4, h4⟩ : ∃ X, X = W3.alloc (.cells #[.slice (some ⟨W.heap.size, 0, none⟩) 2 2, .slice (some ⟨W.heap.size + 1, 0, none⟩) 2 2, .slice (some ⟨W.heap.size + 1 + 1, 0, none⟩) 1 1] 27) := ⟨_, rfl⟩
  rw [← h1, ← h2, ← h3, ← h4]
  have s1 : W1.heap.size = W.heap.size + 1 := by rw [h1]; exact alloc_size _ _
  have s2 : W2.heap.size = W.heap.size + 1 + 1 := by rw [h2, alloc_size, s1]
  have s3 : W3.heap.size = W.heap.size + 1 + 1 + 1 := by rw [h3, alloc_size, s2]
  have b2 : Below W1.heap.size W1 W2 := h2 ▸ alloc_bel (Below.refl _ _) (Nat.le_refl _) _
  have b3 : Below W2.heap.size W2 W3 := h3 ▸ alloc_bel (Below.refl _ _) (Nat.le_refl _) _
  have b4 : Below W3.heap.size W3 W4 := h4 ▸ alloc_bel (Below.refl _ _) (Nat.le_refl _) _
  have r1 : RowV 1 encI W1 (.slice (some ⟨W.heap.size, 0, none⟩) 2 2) [1, 2] := h1 ▸ rows_lit (k := 1) (enc := encI) W 3 (fun _ => rfl) [1, 2]
  have r2 : RowV 1 encI W2 (.slice (some ⟨W.heap.size + 1, 0, none⟩) 2 2) [3, 5] := by
    rw [← s1]
    exact h2 ▸ rows_lit (k := 1) (enc := encI) W1 3 (fun _ => rfl) [3, 5]
  have r3 : RowV 1 encI W3 (.slice (some ⟨W.heap.size + 1 + 1, 0, none⟩) 1 1) [6] := by
    rw [← s2]
    exact h3 ▸ rows_lit (k := 1) (enc := encI) W2 3 (fun _ => rfl) [6]
  refine ⟨[.slice (some ⟨W.heap.size, 0, none⟩) 2 2, .slice (some ⟨W.heap.size + 1, 0, none⟩) 2 2, .slice (some ⟨W.heap.size + 1 + 1, 0, none⟩) 1 1], ?_, rfl, ?_⟩
  · rw [← s3]
    exact h4 ▸ rows_lit (k := 1) (enc := fun u : Value => [u]) W3 27 (fun _ => rfl) [.slice (some ⟨W.heap.size, 0, none⟩) 2 2, .slice (some ⟨W.heap.size + 1, 0, none⟩) 2 2, .slice (some ⟨W.heap.size + 1 + 1, 0, none⟩) 1 1]
  · intro i u x hu hx
    rcases i with _ | _ | _ | i
    · simp at hu hx; subst hu hx; exact ((r1.next b2).next b3).next b4
    · simp at hu hx; subst hu hx; exact (r2.next b3).next b4
    · simp at hu hx; subst hu hx; exact r3.next b4
    · simp at hu
set_option maxRecDepth 10000 in
set_option maxHeartbeats 4000000 in
theorem sane_any (w : World) : Calls Try.prog 8 #[] w fun e w' => e = .returned (.bool true) ∧ Below w.heap.size w w' := by
  obtain ⟨L, hL⟩ : ∃ L, L = RW.L6 := ⟨_, rfl⟩
  have E1 := hide RW.e1
  have E2 := hide RW.e2
  have E3 := hide RW.e3
  have E4 := hide RW.e4
  have E5 := RW.e5
  have E6 := RW.e6
  have E7 := RW.e7
  have E8 := RW.e8
  have E9 := RW.e9
  have hl6 : L.length ≤ 1000 := by rw [hL]; decide
  have hlit := hide (rows_lit (k := 2) (enc := RW.edl) w 38 (fun _ => rfl) RW.L6)
  rw [← hL] at E1 E2 E3 E4 E5 E6 E7 E8 E9
  have hl6H := hide hl6
  have hLH := hide hL
  clear hL hl6
  go_enter Try.func8, Try.ntmps8
  go_upto_region 2 with fail
  refine gen_w (fun W => RowV 2 RW.edl W (.slice (some ⟨w.heap.size, 0, none⟩) 6 6) L ∧ Below w.heap.size w W) ⟨by rw [hLH.out]; exact hlit.out, alloc_bel (Below.refl _ _) (Nat.le_refl _) _⟩ ?_
  obtain ⟨B, hB⟩ : ∃ B, B = w.heap.size := ⟨_, rfl⟩
  rw [← hB]
  have hBH := hide hB
  clear hB hlit
  rintro w1 ⟨h1, h2⟩
  have hv := hide h1
  have hb := hide h2
  clear h1 h2
  have hCl := hide (fun x W (hW : RowV 2 RW.edl W (.slice (some ⟨B, 0, none⟩) 6 6) L) => cluster_any _ L x hl6H.out W hW)
  have hCs := hide (fun W (hW : RowV 2 RW.edl W (.slice (some ⟨B, 0, none⟩) 6 6) L) => clusters_any _ L hl6H.out W hW)
  have hDg := hide (fun d W (hW : RowV 2 RW.edl W (.slice (some ⟨B, 0, none⟩) 6 6) L) => degree_any _ L d hl6H.out W hW)
  have hJn := hide (fun a b W (hW : RowV 2 RW.edl W (.slice (some ⟨B, 0, none⟩) 6 6) L) => joined_any _ L a b hl6H.out W hW)
  have hsz : ∀ W, Below B w W → B ≤ W.heap.size := fun W h => by rw [hBH.out]; exact hBH.out ▸ h.size
  have hszH := hide hsz
  clear hsz
  go_upto_region 3 with (go_at_call 11; refine (hCl.out _ _ hv.out).mono ?_; rintro e w2 ⟨u1, u2, rfl, g1, g2, g3⟩; have r1 := hide g1; have r2 := hide g2; have hv2 := hide (hv.out.next g3); have hb2 := hide (hb.out.trans (g3.mono (hszH.out _ hb.out))); clear g1 g2 g3)
  rw [E1.out] at r1
  rw [E2.out] at r2
  go_upto_region 4 with (go_at_call 11; refine (hCl.out _ _ hv2.out).mono ?_; rintro e w3 ⟨u3, u4, rfl, g1, g2, g3⟩; have r3 := hide g1; have q1 := hide (r1.out.next g3); have q2 := hide (r2.out.next g3); have hv3 := hide (hv2.out.next g3); have hb3 := hide (hb2.out.trans (g3.mono (hszH.out _ hb2.out))); clear g1 g2 g3)
  rw [E3.out] at r3
  obtain ⟨a3, c3, hu3, _, _⟩ := r3.out
  rw [show ([] : List Int).length = 0 from rfl] at hu3
  subst hu3
  have hSL := hide (fun W u (hu : LL W u [[1, 2], [3, 5], [6]]) => samelists_any u (.slice (some ⟨W.heap.size + 1 + 1 + 1, 0, none⟩) 3 3) [[1, 2], [3, 5], [6]] [[1, 2], [3, 5], [6]] (by decide) (by decide) _ (hu.next (alloc_bel (alloc_bel (alloc_bel (alloc_bel (Below.refl W.heap.size W) (Nat.le_refl _) _) (Nat.le_refl _) _) (Nat.le_refl _) _) (Nat.le_refl _) _)) (lit_ll W))
  clear r1 r2 r3 hv hv2 hb hb2
  go_upto_region 5 with (first
    | (go_at_call 17; refine (hCs.out _ hv3.out).mono ?_; rintro e w4 ⟨u5, rfl, g1, g3⟩; rw [E4.out] at g1; have r5 := hide g1; have s1 := hide (q1.out.next g3); have s2 := hide (q2.out.next g3); have hv4 := hide (hv3.out.next g3); have hb4 := hide (hb3.out.trans (g3.mono (hszH.out _ hb3.out))); clear g1 g3)
    | (go_at_call 16; refine (hSL.out _ _ r5.out).mono ?_; rintro e w5 ⟨rfl, g3⟩; have g4 := (alloc_bel (alloc_bel (alloc_bel (alloc_bel (Below.refl w4.heap.size w4) (Nat.le_refl _) (.cells #[.int .i64 1, .int .i64 2] 3)) (Nat.le_refl _) (.cells #[.int .i64 3, .int .i64 5] 3)) (Nat.le_refl _) (.cells #[.int .i64 6] 3)) (Nat.le_refl _) (.cells #[.slice (some ⟨w4.heap.size, 0, none⟩) 2 2, .slice (some ⟨w4.heap.size + 1, 0, none⟩) 2 2, .slice (some ⟨w4.heap.size + 1 + 1, 0, none⟩) 1 1] 27)); have g5 := g4.trans (g3.mono g4.size); have t1 := hide (s1.out.next g5); have t2 := hide (s2.out.next g5); have hv5 := hide (hv4.out.next g5); have hb5 := hide (hb4.out.trans (g5.mono (hszH.out _ hb4.out))); clear g3 g4 g5))
  have hSm := hide (fun (m n : Int) W u (hu : RowV 1 encI W u [m, n]) => (show Calls Try.prog 13 #[u, .slice (some ⟨W.heap.size, 0, none⟩) 2 2] (W.alloc (.cells #[.int .i64 m, .int .i64 n] 3)) fun e w' => e = .returned (.bool true) ∧ Below (W.alloc (.cells #[.int .i64 m, .int .i64 n] 3)).heap.size (W.alloc (.cells #[.int .i64 m, .int .i64 n] 3)) w' by
    have := same_any u (.slice (some ⟨W.heap.size, 0, none⟩) 2 2) [m, n] [m, n] (by simp) (W.alloc (.cells #[.int .i64 m, .int .i64 n] 3)) (hu.next (alloc_bel (Below.refl _ _) (Nat.le_refl _) _)) (rows_lit (k := 1) (enc := encI) W 3 (fun _ => rfl) [m, n])
    rw [decide_eq_true (rfl : [m, n] = [m, n])] at this
    exact this))
  clear hCl hCs hSL q1 q2 s1 s2 r5 hv3 hb3 hv4 hb4 E1 E2 E3 E4
  have tok1 : True := trivial
  go_wp2_with (first
    | (go_at_call 13; have _t := tok1; refine (hSm.out 1 2 _ _ t1.out).mono ?_; rintro e w6 ⟨rfl, g3⟩; have g4 := alloc_bel (Below.refl w5.heap.size w5) (Nat.le_refl _) (.cells #[.int .i64 1, .int .i64 2] 3); have g5 := g4.trans (g3.mono g4.size); have t3 := hide (t2.out.next g5); have hv6 := hide (hv5.out.next g5); have hb6 := hide (hb5.out.trans (g5.mono (hszH.out _ hb5.out))); clear g3 g4 g5 tok1)
    | (go_at_call 13; refine (hSm.out 7 8 _ _ t3.out).mono ?_; rintro e w7 ⟨rfl, g3⟩; have g4 := alloc_bel (Below.refl w6.heap.size w6) (Nat.le_refl _) (.cells #[.int .i64 7, .int .i64 8] 3); have g5 := g4.trans (g3.mono g4.size); have hv := hide (hv6.out.next g5); have hb := hide (hb6.out.trans (g5.mono (hszH.out _ hb6.out))); clear g3 g4 g5)
    | (go_at_call 19; refine (hDg.out _ _ hv.out).mono ?_; rintro e w8 ⟨rfl, g3⟩; simp only [E5, E6]; have hv := hide (hv.out.next g3); have hb := hide (hb.out.trans (g3.mono (hszH.out _ hb.out))); clear g3)
    | (go_at_call 14; refine (hJn.out _ _ _ hv.out).mono ?_; rintro e w8 ⟨rfl, g3⟩; simp only [E7, E8, E9]; have hv := hide (hv.out.next g3); have hb := hide (hb.out.trans (g3.mono (hszH.out _ hb.out))); clear g3))
  go_ret
  exact ⟨rfl, by rw [← hBH.out]; exact hb.out⟩
end Go.Proofs.Ytbmlfejlmedmgaa

/-
  Package royaltylaw19: StatementOwn: it returns true; only new memory is written.
-/
import Derived.Test.YtillplhadimgmaaSt27
namespace Go.Proofs.Ytillplhadimgmaa
open Go.RowKit RG
/-- the first books of StatementOwn -/
structure On1 (W : World) (B : Nat) (w : World) (g : Nat) (z : Int) (v : Value) (l : List RW.Rw) : Prop where
  b : W.heap[g]? = some (.cells (bks z v) 28 (0, 0))
  r : RwsO W B v l
  bel : Below B w W
  ge : B ≤ g
theorem On1.next {W W' : World} {B k : Nat} {w : World} {g : Nat} {z : Int} {v : Value} {l : List RW.Rw} (h : On1 W B w g z v l) (hB : Below k W W') (hk : k = W.heap.size) (hs : B ≤ W.heap.size) : On1 W' B w g z v l := by
  subst hk
  exact ⟨(hB.block _ (Array.getElem?_eq_some_iff.1 h.b).1).trans h.b, h.r.next hB, h.bel.trans (hB.mono hs), h.ge⟩
/-- one of the two books that are filled: the other one, its rows -/
structure Ap (W : World) (G : Nat) (w : World) (Y : Nat) (zy : Int) (uy : Value) (C : List RW.Rw) (k : Nat) : Prop where
  y : W.heap[Y]? = some (.cells (bks zy uy) 28 (0, 0))
  ry : RwsO W (G + 2) uy C
  ky : ∀ b, uy.ownBlock = some b → b < k
  bel : Below G w W
  ks : k ≤ W.heap.size
section
variable {W W' : World} {G : Nat} {w : World} {Y : Nat} {zy : Int} {uy : Value} {C : List RW.Rw} {k : Nat}
theorem Ap.alloc (h : Ap W G w Y zy uy C k) (hG : G ≤ w.heap.size) (o : Obj) : Ap (W.alloc o) G w Y zy uy C k :=
  ⟨alloc_old _ _ h.y, h.ry.next (alloc_bel (Below.refl _ _) (Nat.le_refl _) _), h.ky, alloc_bel h.bel hG _, by rw [alloc_size]; exact Nat.le_succ_of_le h.ks⟩
theorem Ap.below (h : Ap W G w Y zy uy C k) (hB : Below k W W') (hG : G + 2 ≤ k) (hY : Y < G + 2) : Ap W' G w Y zy uy C k :=
  ⟨(hB.block _ (by omega)).trans h.y, own_keep h.ry fun b hb => hB.block _ (h.ky b hb), h.ky, h.bel.trans (hB.mono (by omega)), Nat.le_trans h.ks hB.size⟩
theorem Ap.set (h : Ap W G w Y zy uy C k) {X : Nat} (hX : X ≠ Y) (h0 : G ≤ X) (h1 : X < G + 2) (u : Value) : Ap (W.setCell ⟨X, 2, none⟩ u) G w Y zy uy C k :=
  ⟨(Below.heap_setCell _ _ _ _ (by show Y ≠ X; omega)).trans h.y, own_keep h.ry fun b hb => Below.heap_setCell _ _ _ _ (by have := (own_block h.ry hb).1; show b ≠ X; omega), h.ky, h.bel.setCell (p := ⟨X, 2, none⟩) h0 _, by rw [show (W.setCell ⟨X, 2, none⟩ u).heap.size = W.heap.size by simp [World.setCell]]; exact h.ks⟩
theorem Ap.drew (h : Ap W G w Y zy uy C k) : Ap W.drew G w Y zy uy C k := ⟨h.y, own_keep h.ry fun _ _ => rfl, h.ky, h.bel.trans (Below.refl G W).drew, h.ks⟩
end
theorem rw_ld {W : World} {b o : Nat} {r : RW.Rw} (h : W.rangeAt b o (RW.rwl r)) : (ldRow 57 (.pointer (some ⟨b, o, none⟩))).run Try.prog W = .ok (.agg (RW.rwl r).toArray) W := ldRow_mid h Try.underlying57 rfl (rw_size r)
theorem rws_one (W : World) (q : RW.Rw) : RwsV (W.alloc (.cells (RW.rwl q).toArray 57)) (.slice (some ⟨W.heap.size, 0, none⟩) 1 1) [q] := by
  have h := rws_lit W [q]
  rw [show rowCells RW.rwl [q] = RW.rwl q from by simp [rowCells]] at h
  exact h
set_option maxRecDepth 10000 in
set_option maxHeartbeats 8000000 in
theorem own_any (vx vy : Value) (xs ys : List RW.Ln) (hx : xs.length ≤ 9223372036854775807) (hy : ys.length ≤ 9223372036854775807) (hxb : ∀ x ∈ xs, RW.i64t x) (hyb : ∀ x ∈ ys, RW.i64t x) (hd : Int) (hd0 : -9223372036854775808 ≤ hd) (hd1 : hd ≤ 9223372036854775807) (w : World) (hvx : LnsV w vx xs) (hvy : LnsV w vy ys) :
    Calls Try.prog 6 #[vx, vy, .int .i64 hd] w fun e w' => e = .returned (.bool true) ∧ Below w.heap.size w w' := by
  obtain ⟨B, hB⟩ : ∃ B, B = w.heap.size := ⟨_, rfl⟩
  have hBH := hide hB
  have hMx := hide (fun W (hW : Below B w W) => make_any vx xs hx hxb 3 (by decide) (by decide) W (hvx.next (hB ▸ hW)))
  have hMy := hide (fun W (hW : Below B w W) => make_any vy ys hy hyb 4 (by decide) (by decide) W (hvy.next (hB ▸ hW)))
  have hsz := hide (fun W (hW : Below B w W) => (show B ≤ W.heap.size by rw [hB]; exact (hB ▸ hW).size))
  obtain ⟨z1, hz1⟩ : ∃ z, z = RW.pickI 3 8 := ⟨_, rfl⟩
  obtain ⟨z2, hz2⟩ : ∃ z, z = RW.pickI 4 8 := ⟨_, rfl⟩
  rw [← hz1] at hMx
  rw [← hz2] at hMy
  obtain ⟨A, hA⟩ : ∃ l, l = RW.mkA xs := ⟨_, rfl⟩
  obtain ⟨E, hE⟩ : ∃ l, l = RW.mkA ys := ⟨_, rfl⟩
  have hAl := hide (show A.length ≤ 30 by rw [hA]; exact RW.mkA_len xs)
  have hEl := hide (show E.length ≤ 30 by rw [hE]; exact RW.mkA_len ys)
  have hAn := hide (show RW.NearR A by rw [hA]; exact RW.mkA_near xs)
  have hEn := hide (show RW.NearR E by rw [hE]; exact RW.mkA_near ys)
  rw [← hA] at hMx
  rw [← hE] at hMy
  have hP := hide (fun W => pick_any hd 5 hd0 hd1 (by decide) (by decide) W)
  have k0 := RW.pickI_bd hd 5 (by decide)
  obtain ⟨p, hp⟩ : ∃ p, p = RW.pickI hd 5 := ⟨_, rfl⟩
  rw [← hp] at hP k0
  obtain ⟨k1, k2⟩ := k0
  rw [← hB]
  clear hz1 hz2 hA hE hp hvx hvy hx hy hxb hyb hB
  go_enter Try.func6, Try.ntmps6
  go_upto_region 3 with (first
    | (go_at_call 8; refine (sane_any _).mono ?_; rintro e w1 ⟨rfl, hB1⟩; have hB1H := hide hB1; clear hB1)
    | (go_at_call 11; refine (hP.out _).mono ?_; rintro e w' ⟨rfl, rfl⟩))
  obtain ⟨h, hh⟩ : ∃ h, h = 1 + p := ⟨_, rfl⟩
  rw [← hh]
  clear hh k1 k2 hP hd0 hd1
  refine gen_w (fun W => Below B w W) (hBH.out ▸ hB1H.out) ?_
  clear hB1H
  intro w2 hB2
  have hB2H := hide hB2
  clear hB2
  go_upto_region 4 with (first
    | (go_at_call 10; refine (hMx.out _ hB2H.out).mono ?_; rintro e w3 ⟨v1, rfl, hR1, hB3⟩; have hR1H := hide hR1; have hB3H := hide hB3; have hone := bk_one hR1 z1; have hps := bk_size z1 v1; clear hR1 hB3)
    | (refine wpListStoreNew rfl 28 (.tmp 9) (.tmp 20) rfl (bks z1 v1) rfl rfl 28 _ hps rfl hone ?_))
  obtain ⟨g1, hg1⟩ : ∃ g, g = w3.heap.size := ⟨_, rfl⟩
  have hO1 := hide (show On1 (w3.alloc (.cells (bks z1 v1) 28)) B w g1 z1 v1 A from by
    have h3 := hB2H.out.trans (hB3H.out.mono (hsz.out _ hB2H.out))
    exact ⟨newAt hg1, RwsO.next (own_base hR1H.out (hsz.out _ hB2H.out)) (alloc_bel (Below.refl _ _) (Nat.le_refl _) _), alloc_bel h3 (Nat.le_of_eq hBH.out) _, by rw [hg1]; exact hsz.out _ h3⟩)
  rw [← hg1]
  refine gen_w (fun W => On1 W B w g1 z1 v1 A) hO1.out ?_
  clear hO1 hg1 hR1H hB3H hone hps hB2H hMx
  intro w4 hO4
  have hO4H := hide hO4
  clear hO4
  go_upto_region 5 with (first
    | (go_at_call 10; refine (hMy.out _ hO4H.out.bel).mono ?_; rintro e w5 ⟨v2, rfl, hR2, hB5⟩; have hR2H := hide hR2; have hB5H := hide hB5; have hone := bk_one hR2 z2; have hps := bk_size z2 v2; clear hR2 hB5)
    | (refine wpListStoreNew rfl 28 (.tmp 10) (.tmp 22) rfl (bks z2 v2) rfl rfl 28 _ hps rfl hone ?_))
  obtain ⟨g2, hg2⟩ : ∃ g, g = w5.heap.size := ⟨_, rfl⟩
  have hO6 := hide (show On1 (w5.alloc (.cells (bks z2 v2) 28)) B w g1 z1 v1 A ∧ On1 (w5.alloc (.cells (bks z2 v2) 28)) B w g2 z2 v2 E from by
    have h3 := hO4H.out.bel.trans (hB5H.out.mono (hsz.out _ hO4H.out.bel))
    have h4 := hO4H.out.next hB5H.out rfl (hsz.out _ hO4H.out.bel)
    have h5 := alloc_bel (Below.refl w5.heap.size w5) (Nat.le_refl _) (.cells (bks z2 v2) 28)
    exact ⟨h4.next h5 rfl (hsz.out _ h3), newAt hg2, RwsO.next (own_base hR2H.out (hsz.out _ hO4H.out.bel)) h5, alloc_bel h3 (Nat.le_of_eq hBH.out) _, by rw [hg2]; exact hsz.out _ h3⟩)
  rw [← hg2]
  refine gen_w (fun W => On1 W B w g1 z1 v1 A ∧ On1 W B w g2 z2 v2 E) hO6.out ?_
  clear hO6 hg2 hR2H hB5H hone hps hO4H hMy
  intro w6 hO6
  obtain ⟨G, hG⟩ : ∃ G, G = w6.heap.size := ⟨_, rfl⟩
  have hGH := hide hG
  have hRd := hide (fun W (hW : Below G w6 W) => (show On1 W B w g1 z1 v1 A ∧ On1 W B w g2 z2 v2 E from ⟨hO6.1.next hW hG (hsz.out _ hO6.1.bel), hO6.2.next hW hG (hsz.out _ hO6.1.bel)⟩))
  have c1 : w6.cell? ⟨g1, 0, none⟩ = some (.int .i64 z1) := cellAt hO6.1.b 0
  have hlt2 : g2 < w6.heap.size := (Array.getElem?_eq_some_iff.1 hO6.2.b).1
  have c2 : (w6.alloc (.cells (bks z1 (.slice none 0 0)) 28)).cell? ⟨g2, 0, none⟩ = some (.int .i64 z2) := cellAt (alloc_old _ _ hO6.2.b) 0
  have hA7 := hide (show Ap ((w6.alloc (.cells (bks z1 (.slice none 0 0)) 28)).alloc (.cells (bks z2 (.slice none 0 0)) 28)) G w6 (G + 1) z2 (.slice none 0 0) [] (G + 2) from
    ⟨by rw [hG, ← alloc_size w6 (.cells (bks z1 (.slice none 0 0)) 28)]; exact alloc_at1 _ _, RwsO.nil _ _, (fun b hb => by cases hb), alloc_bel (alloc_bel (Below.refl _ _) (Nat.le_of_eq hG) _) (Nat.le_of_eq hG) _, by rw [alloc_size, alloc_size, hG]; exact Nat.le_refl _⟩)
  have hX7 := hide (show ((w6.alloc (.cells (bks z1 (.slice none 0 0)) 28)).alloc (.cells (bks z2 (.slice none 0 0)) 28)).heap[G]? = some (.cells (bks z1 (.slice none 0 0)) 28 (0, 0)) by rw [hG]; exact alloc_old _ _ (alloc_at1 _ _))
  have hs7 := alloc_size w6 (.cells (bks z1 (.slice none 0 0)) 28)
  obtain ⟨a1, cc1, e1⟩ := hO6.1.r.form
  obtain ⟨a2, cc2, e2⟩ := hO6.2.r.form
  obtain ⟨n1, hn1⟩ : ∃ n, n = A.length := ⟨_, rfl⟩
  obtain ⟨n2, hn2⟩ : ∃ n, n = E.length := ⟨_, rfl⟩
  rw [← hn1] at e1
  rw [← hn2] at e2
  subst e1 e2
  have hn1H := hide hn1
  have hn2H := hide hn2
  rw [← hG] at hs7
  have hn1b : n1 ≤ 30 := by rw [hn1]; exact hAl.out
  have hn2b : n2 ≤ 30 := by rw [hn2]; exact hEl.out
  clear hO6 hn1 hn2
  unfold bks at hs7 c2 hA7 hX7
  go_wp2
  rw [← hG]
  clear hs7 c1 c2 hlt2 hG
  go_loopw [13] (fun i wr => ∃ (j : Nat) (u : Value), i = .int .i64 j ∧ j ≤ n1 ∧ Hid (Ap wr G w6 (G + 1) z2 (.slice none 0 0) [] (G + 2) ∧ wr.heap[G]? = some (.cells (bks z1 u) 28 (0, 0)) ∧ RwsO wr (G + 2) u (RW.ofH h (A.take j)))) (fun i _ => n1 - (intOf i).toNat)
  case atStart => exact ⟨0, _, rfl, Nat.zero_le _, hA7.out, hX7.out, RwsO.nil _ _⟩
  case round =>
    obtain ⟨j, u, rfl, hj, hQ⟩ := hrel
    obtain ⟨wo, hwo⟩ : ∃ wo, wo = wr := ⟨_, rfl⟩
    subst hwo
    have hAp := hide hQ.out.1
    have hX := hide hQ.out.2.1
    have hR := hide hQ.out.2.2
    clear hQ hA7 hX7
    have hL1 := (hRd.out wo hAp.out.bel).1
    have e2 : wo.cell? ⟨g1, 2, none⟩ = some (.slice a1 n1 cc1) := cellAt hL1.b 2
    by_cases hjn : j < n1
    · obtain ⟨q, hq⟩ : ∃ r, A[j]? = some r := ⟨_, List.getElem?_eq_getElem (by rw [← hn1H.out]; exact hjn)⟩
      obtain ⟨b, hax, _, hrg⟩ := rws_parts hL1.r hq
      subst hax
      have hrgW := hide (fun W (hW : Below G w6 W) => (show W.rangeAt b (0 + j * 12) (RW.rwl q) from by
        obtain ⟨b', e, _, h1⟩ := rws_parts (hRd.out W hW).1.r hq
        cases e
        rw [Nat.zero_add]
        exact h1))
      have c0 : wo.cell? ⟨b, j * 12, none⟩ = some (.int .i64 (q 0)) := hrg 0 _ rfl
      have hsn := hide (show RW.ofH h (A.take (j + 1)) = RW.ofH h (A.take j) ++ (if q 0 = h then [q] else []) by rw [List.take_add_one, hq, Option.toList_some, RW.ofH_snoc])
      have hDl := hide (show (RW.ofH h (A.take j)).length ≤ 1000 by
        have h1 := RW.ofH_len h (A.take j)
        rw [List.length_take] at h1
        have := hAl.out
        omega)
      have hjH := hide hjn
      obtain ⟨D, hD⟩ : ∃ D, D = RW.ofH h (A.take j) := ⟨_, rfl⟩
      rw [← hD] at hsn hR hDl
      obtain ⟨a0, cu, eu⟩ := RwsO.form hR.out
      obtain ⟨n0, hn0⟩ : ∃ n, n = D.length := ⟨_, rfl⟩
      rw [← hn0] at eu
      subst eu
      obtain ⟨x0, hx0⟩ : ∃ x, x = q 0 := ⟨_, rfl⟩
      rw [← hx0] at c0 hsn
      clear hD hn0 hx0 hrg hq hL1
      by_cases hx : x0 = h
      · have hs2 := hide (show RW.ofH h (A.take (j + 1)) = D ++ [q] by rw [hsn.out, if_pos hx])
        subst hx
        go_upto_region 11 with fail
        clear c0 e2
        refine wp_region_k (fun hh W => Ap W G w6 (G + 1) z2 (.slice none 0 0) [] (G + 2) ∧ (10 ∉ hh → W.heap[G]? = some (.cells (bks z1 (.slice a0 n0 cu)) 28 (0, 0)))) (fun W => RwsO W (G + 2) (.slice a0 n0 cu) D) [7, 8, 10] (.op 0 (.op 1 (.op 2 (.op 3 (.op 4 (.op 5 (.op 6 (.op 7 (.op 8 (.op 9 (.op 10 .nil))))))))))) (by kernel_rfl) (by kernel_rfl) (by rfl) (by kernel_rfl) ⟨hAp.out.drew, fun _ => hX.out⟩ (own_keep hR.out fun _ _ => rfl) ?_
        refine k_val (.pointer (some ⟨G, 2, none⟩)) (by apply opN; repeat' (first | apply OpAt.z | apply OpAt.s)) (by rfl) (by rfl) (fun _ W hS => op_fa rfl rfl (fa_bk W)) ?_
        simp only [Act.put, List.setIfInBounds_toArray, List.set_cons_zero, List.set_cons_succ]
        refine k_bef 10 (.slice a0 n0 cu) (by apply opN; repeat' (first | apply OpAt.z | apply OpAt.s)) (by rfl) (by rfl) (by decide +kernel) (by rfl) (fun _ W hg hS => op_ld rfl rfl (sl_ld (cellAt (hS.2 hg) 2))) ?_
        simp only [Act.put, List.setIfInBounds_toArray, List.set_cons_zero, List.set_cons_succ]
        refine k_val (.pointer (some ⟨g1, 2, none⟩)) (by apply opN; repeat' (first | apply OpAt.z | apply OpAt.s)) (by rfl) (by rfl) (fun _ W hS => op_fa rfl rfl (fa_bk W)) ?_
        simp only [Act.put, List.setIfInBounds_toArray, List.set_cons_zero, List.set_cons_succ]
        refine k_val (.slice (some ⟨b, 0, none⟩) n1 cc1) (by apply opN; repeat' (first | apply OpAt.z | apply OpAt.s)) (by rfl) (by rfl) (fun _ W hS => op_ld rfl rfl (sl_ld (cellAt (hRd.out W hS.1.bel).1.b 2))) ?_
        simp only [Act.put, List.setIfInBounds_toArray, List.set_cons_zero, List.set_cons_succ]
        refine k_val (.int .i64 (j : Int)) (by apply opN; repeat' (first | apply OpAt.z | apply OpAt.s)) (by rfl) (by rfl) (fun _ W hS => op_mv rfl rfl) ?_
        simp only [Act.put, List.setIfInBounds_toArray, List.set_cons_zero, List.set_cons_succ]
        refine k_val (.pointer (some ⟨b, 0 + j * 12, none⟩)) (by apply opN; repeat' (first | apply OpAt.z | apply OpAt.s)) (by rfl) (by rfl) (fun _ W hS => op_ix rfl rfl rfl (ix_rw hjH.out W)) ?_
        simp only [Act.put, List.setIfInBounds_toArray, List.set_cons_zero, List.set_cons_succ]
        refine k_val (.agg (RW.rwl q).toArray) (by apply opN; repeat' (first | apply OpAt.z | apply OpAt.s)) (by rfl) (by rfl) (fun _ W hS => op_ld rfl rfl (rw_ld (hrgW.out W hS.1.bel))) ?_
        simp only [Act.put, List.setIfInBounds_toArray, List.set_cons_zero, List.set_cons_succ]
        refine k_step (fun K' u => ∃ g0, u = .slice (some ⟨g0, 0, none⟩) 1 1 ∧ K' = fun W => RwsO W (G + 2) (.slice a0 n0 cu) D ∧ RwsV W (.slice (some ⟨g0, 0, none⟩) 1 1) [q]) (by apply opN; repeat' (first | apply OpAt.z | apply OpAt.s)) (by rfl) (by rfl) (by rfl) (fun W hC' hK => ?_) ?_
        · exact xup_val (op_bs_rw rfl rfl) ⟨⟨hC'.1.alloc (Nat.le_of_eq hGH.out) _, fun _ => alloc_old _ _ (hC'.2 (by decide))⟩, _, ⟨RwsO.next hK (alloc_bel (Below.refl _ _) (Nat.le_refl _) _), rws_one W q⟩, W.heap.size, rfl, rfl⟩
        rintro _ _ ⟨g0, rfl, rfl⟩
        simp only [Act.put, List.setIfInBounds_toArray, List.set_cons_zero, List.set_cons_succ]
        refine k_step (fun K' u => ∃ a8 n8 c8, u = .slice a8 n8 c8 ∧ K' = fun W => RwsO W (G + 2) (.slice a8 n8 c8) (D ++ [q])) (by apply opN; repeat' (first | apply OpAt.z | apply OpAt.s)) (by rfl) (by rfl) (by rfl) (fun W hC' hK => ?_) ?_
        · obtain ⟨v8, W8, hrun, ho8, hb8⟩ := RwsO.app hK.1 (m := [q]) (by have := hDl.out; rw [List.length_cons, List.length_nil]; omega) hC'.1.ks hK.2
          obtain ⟨a8, c8, e8⟩ := RwsO.form ho8
          subst e8
          exact xup_val (op_app rfl rfl rfl hrun) ⟨⟨hC'.1.below hb8 (by omega) (by omega), fun _ => (hb8.block _ (by omega)).trans (hC'.2 (by decide))⟩, _, ho8, a8, _, c8, rfl, rfl⟩
        rintro _ _ ⟨a8, n8, c8, rfl, rfl⟩
        simp only [Act.put, List.setIfInBounds_toArray, List.set_cons_zero, List.set_cons_succ]
        refine k_val (.pointer (some ⟨G, 2, none⟩)) (by apply opN; repeat' (first | apply OpAt.z | apply OpAt.s)) (by rfl) (by rfl) (fun _ W hS => op_fa rfl rfl (fa_bk W)) ?_
        simp only [Act.put, List.setIfInBounds_toArray, List.set_cons_zero, List.set_cons_succ]
        refine k_step (fun K' u => K' = fun W => W.heap[G]? = some (.cells (bks z1 (.slice a8 n8 c8)) 28 (0, 0)) ∧ RwsO W (G + 2) (.slice a8 n8 c8) (D ++ [q])) (by apply opN; repeat' (first | apply OpAt.z | apply OpAt.s)) (by rfl) (by rfl) (by rfl) (fun W hC' hK => ?_) ?_
        · have hx10 := hC'.2 (by decide)
          exact xup_skip (op_st rfl rfl rfl (sl_st hx10 a8 n8 c8)) ⟨⟨hC'.1.set (by omega) (by omega) (by omega) _, fun hh => absurd (by simp) hh⟩, _, ⟨sl_stc hx10, own_keep hK fun b hb => Below.heap_setCell _ _ _ _ (by have := (own_block hK hb).1; show b ≠ G; omega)⟩, rfl⟩
        rintro _ _ rfl
        simp only [Act.put]
        refine k_nil ?_
        intro w2 hC2' hK2'
        have hC2 := hide hC2'.1
        have hK2 := hide hK2'
        clear hC2' hK2' hAp hX hR hrgW
        go_wp2
        go_roundw
        case rel => exact ⟨j + 1, _, by go_num, by omega, hC2.out, hK2.out.1, by rw [hs2.out]; exact hK2.out.2⟩
        case measure => simp [intOf]; omega
      · have hs2 := hide (show RW.ofH h (A.take (j + 1)) = D by rw [hsn.out, if_neg hx, List.append_nil])
        go_wp2
        go_roundw
        case rel => exact ⟨j + 1, _, by go_num, by omega, hAp.out, hX.out, by rw [hs2.out]; exact hR.out⟩
        case measure => simp [intOf]; omega
    · obtain rfl : n1 = j := by omega
      have hRf := hide (show RwsO wo (G + 2) u (RW.ofH h A) by
        have h1 := hR.out
        rwa [List.take_of_length_le (by rw [← hn1H.out]; exact Nat.le_refl _)] at h1)
      have hC0 := hide (show ∃ C, C = RW.ofH h A from ⟨_, rfl⟩)
      obtain ⟨C, hC⟩ := hC0.out
      clear hC0
      have hCH := hide hC
      rw [← hC] at hRf
      obtain ⟨k, hk⟩ : ∃ k, k = wo.heap.size := ⟨_, rfl⟩
      have hkG : G + 2 ≤ k := by rw [hk]; exact hAp.out.ks
      have hA8 := hide (show Ap wo G w6 G z1 u C k from ⟨hX.out, hRf.out, (fun b hb => by rw [hk]; exact (own_block hRf.out hb).2.1), hAp.out.bel, Nat.le_of_eq hk⟩)
      have hX8 := hide hAp.out.y
      obtain ⟨u1, hu1⟩ : ∃ x, x = u := ⟨_, rfl⟩
      subst hu1
      go_wp2
      clear e2 hL1 hAp hX hR hRf hk hC
      go_loopw [14] (fun i wr => ∃ (j : Nat) (u : Value), i = .int .i64 j ∧ j ≤ n2 ∧ Hid (Ap wr G w6 (G) z1 u1 C (k) ∧ wr.heap[G + 1]? = some (.cells (bks z2 u) 28 (0, 0)) ∧ RwsO wr (k) u (RW.ofH h (E.take j)))) (fun i _ => n2 - (intOf i).toNat)
      case atStart => exact ⟨0, _, rfl, Nat.zero_le _, hA8.out, hX8.out, RwsO.nil _ _⟩
      case round =>
        obtain ⟨j, u, rfl, hj, hQ⟩ := hrel
        obtain ⟨wo, hwo⟩ : ∃ wo, wo = wr := ⟨_, rfl⟩
        subst hwo
        have hAp := hide hQ.out.1
        have hX := hide hQ.out.2.1
        have hR := hide hQ.out.2.2
        clear hQ hA8 hX8
        have hL1 := (hRd.out wo hAp.out.bel).2
        have e2 : wo.cell? ⟨g2, 2, none⟩ = some (.slice a2 n2 cc2) := cellAt hL1.b 2
        by_cases hjn : j < n2
        · obtain ⟨q, hq⟩ : ∃ r, E[j]? = some r := ⟨_, List.getElem?_eq_getElem (by rw [← hn2H.out]; exact hjn)⟩
          obtain ⟨b, hax, _, hrg⟩ := rws_parts hL1.r hq
          subst hax
          have hrgW := hide (fun W (hW : Below G w6 W) => (show W.rangeAt b (0 + j * 12) (RW.rwl q) from by
            obtain ⟨b', e, _, h1⟩ := rws_parts (hRd.out W hW).2.r hq
            cases e
            rw [Nat.zero_add]
            exact h1))
          have c0 : wo.cell? ⟨b, j * 12, none⟩ = some (.int .i64 (q 0)) := hrg 0 _ rfl
          have hsn := hide (show RW.ofH h (E.take (j + 1)) = RW.ofH h (E.take j) ++ (if q 0 = h then [q] else []) by rw [List.take_add_one, hq, Option.toList_some, RW.ofH_snoc])
          have hDl := hide (show (RW.ofH h (E.take j)).length ≤ 1000 by
            have h1 := RW.ofH_len h (E.take j)
            rw [List.length_take] at h1
            have := hEl.out
            omega)
          have hjH := hide hjn
          obtain ⟨D, hD⟩ : ∃ D, D = RW.ofH h (E.take j) := ⟨_, rfl⟩
          rw [← hD] at hsn hR hDl
          obtain ⟨a0, cu, eu⟩ := RwsO.form hR.out
          obtain ⟨n0, hn0⟩ : ∃ n, n = D.length := ⟨_, rfl⟩
          rw [← hn0] at eu
          subst eu
          obtain ⟨x0, hx0⟩ : ∃ x, x = q 0 := ⟨_, rfl⟩
          rw [← hx0] at c0 hsn
          clear hD hn0 hx0 hrg hq hL1
          by_cases hx : x0 = h
          · have hs2 := hide (show RW.ofH h (E.take (j + 1)) = D ++ [q] by rw [hsn.out, if_pos hx])
            subst hx
            go_upto_region 16 with fail
            clear c0 e2
            refine wp_region_k (fun hh W => Ap W G w6 (G) z1 u1 C (k) ∧ (10 ∉ hh → W.heap[G + 1]? = some (.cells (bks z2 (.slice a0 n0 cu)) 28 (0, 0)))) (fun W => RwsO W (k) (.slice a0 n0 cu) D) [7, 8, 10] (.op 0 (.op 1 (.op 2 (.op 3 (.op 4 (.op 5 (.op 6 (.op 7 (.op 8 (.op 9 (.op 10 .nil))))))))))) (by kernel_rfl) (by kernel_rfl) (by rfl) (by kernel_rfl) ⟨hAp.out.drew, fun _ => hX.out⟩ (own_keep hR.out fun _ _ => rfl) ?_
            refine k_val (.pointer (some ⟨G + 1, 2, none⟩)) (by apply opN; repeat' (first | apply OpAt.z | apply OpAt.s)) (by rfl) (by rfl) (fun _ W hS => op_fa rfl rfl (fa_bk W)) ?_
            simp only [Act.put, List.setIfInBounds_toArray, List.set_cons_zero, List.set_cons_succ]
            refine k_bef 10 (.slice a0 n0 cu) (by apply opN; repeat' (first | apply OpAt.z | apply OpAt.s)) (by rfl) (by rfl) (by decide +kernel) (by rfl) (fun _ W hg hS => op_ld rfl rfl (sl_ld (cellAt (hS.2 hg) 2))) ?_
            simp only [Act.put, List.setIfInBounds_toArray, List.set_cons_zero, List.set_cons_succ]
            refine k_val (.pointer (some ⟨g2, 2, none⟩)) (by apply opN; repeat' (first | apply OpAt.z | apply OpAt.s)) (by rfl) (by rfl) (fun _ W hS => op_fa rfl rfl (fa_bk W)) ?_
            simp only [Act.put, List.setIfInBounds_toArray, List.set_cons_zero, List.set_cons_succ]
            refine k_val (.slice (some ⟨b, 0, none⟩) n2 cc2) (by apply opN; repeat' (first | apply OpAt.z | apply OpAt.s)) (by rfl) (by rfl) (fun _ W hS => op_ld rfl rfl (sl_ld (cellAt (hRd.out W hS.1.bel).2.b 2))) ?_
            simp only [Act.put, List.setIfInBounds_toArray, List.set_cons_zero, List.set_cons_succ]
            refine k_val (.int .i64 (j : Int)) (by apply opN; repeat' (first | apply OpAt.z | apply OpAt.s)) (by rfl) (by rfl) (fun _ W hS => op_mv rfl rfl) ?_
            simp only [Act.put, List.setIfInBounds_toArray, List.set_cons_zero, List.set_cons_succ]
            refine k_val (.pointer (some ⟨b, 0 + j * 12, none⟩)) (by apply opN; repeat' (first | apply OpAt.z | apply OpAt.s)) (by rfl) (by rfl) (fun _ W hS => op_ix rfl rfl rfl (ix_rw hjH.out W)) ?_
            simp only [Act.put, List.setIfInBounds_toArray, List.set_cons_zero, List.set_cons_succ]
            refine k_val (.agg (RW.rwl q).toArray) (by apply opN; repeat' (first | apply OpAt.z | apply OpAt.s)) (by rfl) (by rfl) (fun _ W hS => op_ld rfl rfl (rw_ld (hrgW.out W hS.1.bel))) ?_
            simp only [Act.put, List.setIfInBounds_toArray, List.set_cons_zero, List.set_cons_succ]
            refine k_step (fun K' u => ∃ g0, u = .slice (some ⟨g0, 0, none⟩) 1 1 ∧ K' = fun W => RwsO W (k) (.slice a0 n0 cu) D ∧ RwsV W (.slice (some ⟨g0, 0, none⟩) 1 1) [q]) (by apply opN; repeat' (first | apply OpAt.z | apply OpAt.s)) (by rfl) (by rfl) (by rfl) (fun W hC' hK => ?_) ?_
            · exact xup_val (op_bs_rw rfl rfl) ⟨⟨hC'.1.alloc (Nat.le_of_eq hGH.out) _, fun _ => alloc_old _ _ (hC'.2 (by decide))⟩, _, ⟨RwsO.next hK (alloc_bel (Below.refl _ _) (Nat.le_refl _) _), rws_one W q⟩, W.heap.size, rfl, rfl⟩
            rintro _ _ ⟨g0, rfl, rfl⟩
            simp only [Act.put, List.setIfInBounds_toArray, List.set_cons_zero, List.set_cons_succ]
            refine k_step (fun K' u => ∃ a8 n8 c8, u = .slice a8 n8 c8 ∧ K' = fun W => RwsO W (k) (.slice a8 n8 c8) (D ++ [q])) (by apply opN; repeat' (first | apply OpAt.z | apply OpAt.s)) (by rfl) (by rfl) (by rfl) (fun W hC' hK => ?_) ?_
            · obtain ⟨v8, W8, hrun, ho8, hb8⟩ := RwsO.app hK.1 (m := [q]) (by have := hDl.out; rw [List.length_cons, List.length_nil]; omega) hC'.1.ks hK.2
              obtain ⟨a8, c8, e8⟩ := RwsO.form ho8
              subst e8
              exact xup_val (op_app rfl rfl rfl hrun) ⟨⟨hC'.1.below hb8 (by omega) (by omega), fun _ => (hb8.block _ (by omega)).trans (hC'.2 (by decide))⟩, _, ho8, a8, _, c8, rfl, rfl⟩
            rintro _ _ ⟨a8, n8, c8, rfl, rfl⟩
            simp only [Act.put, List.setIfInBounds_toArray, List.set_cons_zero, List.set_cons_succ]
            refine k_val (.pointer (some ⟨G + 1, 2, none⟩)) (by apply opN; repeat' (first | apply OpAt.z | apply OpAt.s)) (by rfl) (by rfl) (fun _ W hS => op_fa rfl rfl (fa_bk W)) ?_
            simp only [Act.put, List.setIfInBounds_toArray, List.set_cons_zero, List.set_cons_succ]
            refine k_step (fun K' u => K' = fun W => W.heap[G + 1]? = some (.cells (bks z2 (.slice a8 n8 c8)) 28 (0, 0)) ∧ RwsO W (k) (.slice a8 n8 c8) (D ++ [q])) (by apply opN; repeat' (first | apply OpAt.z | apply OpAt.s)) (by rfl) (by rfl) (by rfl) (fun W hC' hK => ?_) ?_
            · have hx10 := hC'.2 (by decide)
              exact xup_skip (op_st rfl rfl rfl (sl_st hx10 a8 n8 c8)) ⟨⟨hC'.1.set (by omega) (by omega) (by omega) _, fun hh => absurd (by simp) hh⟩, _, ⟨sl_stc hx10, own_keep hK fun b hb => Below.heap_setCell _ _ _ _ (by have := (own_block hK hb).1; show b ≠ G + 1; omega)⟩, rfl⟩
            rintro _ _ rfl
            simp only [Act.put]
            refine k_nil ?_
            intro w2 hC2' hK2'
            have hC2 := hide hC2'.1
            have hK2 := hide hK2'
            clear hC2' hK2' hAp hX hR hrgW
            go_wp2
            go_roundw
            case rel => exact ⟨j + 1, _, by go_num, by omega, hC2.out, hK2.out.1, by rw [hs2.out]; exact hK2.out.2⟩
            case measure => simp [intOf]; omega
          · have hs2 := hide (show RW.ofH h (E.take (j + 1)) = D by rw [hsn.out, if_neg hx, List.append_nil])
            go_wp2
            go_roundw
            case rel => exact ⟨j + 1, _, by go_num, by omega, hAp.out, hX.out, by rw [hs2.out]; exact hR.out⟩
            case measure => simp [intOf]; omega
        · obtain rfl : n2 = j := by omega
          have hRf := hide (show RwsO wo (k) u (RW.ofH h E) by
            have h1 := hR.out
            rwa [List.take_of_length_le (by rw [← hn2H.out]; exact Nat.le_refl _)] at h1)
          obtain ⟨F, hF⟩ : ∃ F, F = RW.ofH h E := ⟨_, rfl⟩
          have hFH := hide hF
          rw [← hF] at hRf
          have hLl := hide (show RW.lns C F h = RW.lns A E h by rw [hCH.out, hFH.out, RW.lns_ofH])
          have hll := hide (show (RW.lns A E h).length ≤ 1000000 by have := RW.lns_len A E h; have := hAl.out; have := hEl.out; omega)
          have hCl := hide (show C.length ≤ 50 by rw [hCH.out]; have := RW.ofH_len h A; have := hAl.out; omega)
          have hFl := hide (show F.length ≤ 50 by rw [hFH.out]; have := RW.ofH_len h E; have := hEl.out; omega)
          have hCn := hide (show RW.NearR C by rw [hCH.out]; exact RW.ofH_near hAn.out)
          have hFn := hide (show RW.NearR F by rw [hFH.out]; exact RW.ofH_near hEn.out)
          have hAl5 := hide (show A.length ≤ 50 by have := hAl.out; omega)
          have hEl5 := hide (show E.length ≤ 50 by have := hEl.out; omega)
          have hQ := hide (fun W (hW : Below wo.heap.size wo W) => (show On1 W B w g1 z1 (.slice a1 n1 cc1) A ∧ On1 W B w g2 z2 (.slice a2 n2 cc2) E ∧ W.heap[G]? = some (.cells (bks z1 u1) 28 (0, 0)) ∧ W.heap[G + 1]? = some (.cells (bks z2 u) 28 (0, 0)) ∧ RwsV W u1 C ∧ RwsV W u F from by
            have h1 := hRd.out W (hAp.out.bel.trans (hW.mono (by have := hAp.out.ks; omega)))
            exact ⟨h1.1, h1.2, (hW.block _ (Array.getElem?_eq_some_iff.1 hAp.out.y).1).trans hAp.out.y, (hW.block _ (Array.getElem?_eq_some_iff.1 hX.out).1).trans hX.out, (RwsO.next hAp.out.ry hW).row, (RwsO.next hRf.out hW).row⟩))
          obtain ⟨L, hL⟩ : ∃ L, L = RW.lns A E h := ⟨_, rfl⟩
          have hOf1 := hide (fun W (hW : Below wo.heap.size wo W) => of_any z1 z2 h (.slice a1 n1 cc1) (.slice a2 n2 cc2) A E hAl5.out hEl5.out hAn.out hEn.out W (hQ.out W hW).1.r.row (hQ.out W hW).2.1.r.row)
          have hOf2 := hide (fun W (hW : Below wo.heap.size wo W) => of_any z1 z2 h u1 u C F hCl.out hFl.out hCn.out hFn.out W (hQ.out W hW).2.2.2.2.1 (hQ.out W hW).2.2.2.2.2)
          have hOf3 := hide (fun W (hW : Below wo.heap.size wo W) => of_any z1 z1 h (.slice a1 n1 cc1) (.slice a1 n1 cc1) A A hAl5.out hAl5.out hAn.out hAn.out W (hQ.out W hW).1.r.row (hQ.out W hW).1.r.row)
          have hAll := hide (fun W (hW : Below wo.heap.size wo W) => all_any z2 z2 (.slice a2 n2 cc2) (.slice a2 n2 cc2) E E hEl5.out hEl5.out hEn.out hEn.out W (hQ.out W hW).2.1.r.row (hQ.out W hW).2.1.r.row)
          rw [hLl.out] at hOf2
          rw [← hL] at hOf1 hOf2 hll
          simp only [RW.lns_same] at hOf3
          simp only [RW.stAll_same] at hAll
          clear hLl hCl hFl hCn hFn hAl5 hEl5 hF hL hL1
          go_upto_region 17 with fail
          clear e2
          refine wp_region_k (fun _ W => Below wo.heap.size wo W) (fun _ => True) [5, 9, 10, 16, 24] (.op 0 (.op 1 (.op 2 (.op 3 (.op 4 (.op 6 (.op 7 (.op 8 (.op 5 (.op 9 (.op 10 (.op 11 (.op 12 (.op 13 (.op 14 (.op 15 (.op 16 (.op 17 (.op 18 (.op 19 (.op 20 (.op 21 (.op 22 (.op 23 (.op 24 (.op 25 (.op 26 (.op 27 (.op 28 .nil))))))))))))))))))))))))))))) (by kernel_rfl) (by kernel_rfl) (by rfl) (by kernel_rfl) (Below.refl wo.heap.size wo).drew trivial ?_
          refine k_val (.bool true) (by apply opN; repeat' (first | apply OpAt.z | apply OpAt.s)) (by rfl) (by rfl) (fun _ W hS => op_mv rfl rfl) ?_
          simp only [Act.put, List.setIfInBounds_toArray, List.set_cons_zero, List.set_cons_succ]
          refine k_val (.bool true) (by apply opN; repeat' (first | apply OpAt.z | apply OpAt.s)) (by rfl) (by rfl) (fun _ W hS => op_mv rfl rfl) ?_
          simp only [Act.put, List.setIfInBounds_toArray, List.set_cons_zero, List.set_cons_succ]
          refine k_val (.agg (bks z1 (.slice a1 n1 cc1))) (by apply opN; repeat' (first | apply OpAt.z | apply OpAt.s)) (by rfl) (by rfl) (fun _ W hS => op_ld rfl rfl (bk_ld ((hQ.out W hS).1.b))) ?_
          simp only [Act.put, List.setIfInBounds_toArray, List.set_cons_zero, List.set_cons_succ]
          refine k_val (.agg (bks z2 (.slice a2 n2 cc2))) (by apply opN; repeat' (first | apply OpAt.z | apply OpAt.s)) (by rfl) (by rfl) (fun _ W hS => op_ld rfl rfl (bk_ld ((hQ.out W hS).2.1.b))) ?_
          simp only [Act.put, List.setIfInBounds_toArray, List.set_cons_zero, List.set_cons_succ]
          refine k_val (.int .i64 h) (by apply opN; repeat' (first | apply OpAt.z | apply OpAt.s)) (by rfl) (by rfl) (fun _ W hS => op_mv rfl rfl) ?_
          simp only [Act.put, List.setIfInBounds_toArray, List.set_cons_zero, List.set_cons_succ]
          refine k_val (.agg (bks z1 (u1))) (by apply opN; repeat' (first | apply OpAt.z | apply OpAt.s)) (by rfl) (by rfl) (fun _ W hS => op_ld rfl rfl (bk_ld ((hQ.out W hS).2.2.1))) ?_
          simp only [Act.put, List.setIfInBounds_toArray, List.set_cons_zero, List.set_cons_succ]
          refine k_val (.agg (bks z2 (u))) (by apply opN; repeat' (first | apply OpAt.z | apply OpAt.s)) (by rfl) (by rfl) (fun _ W hS => op_ld rfl rfl (bk_ld ((hQ.out W hS).2.2.2.1))) ?_
          simp only [Act.put, List.setIfInBounds_toArray, List.set_cons_zero, List.set_cons_succ]
          refine k_val (.int .i64 h) (by apply opN; repeat' (first | apply OpAt.z | apply OpAt.s)) (by rfl) (by rfl) (fun _ W hS => op_mv rfl rfl) ?_
          simp only [Act.put, List.setIfInBounds_toArray, List.set_cons_zero, List.set_cons_succ]
          refine k_step (fun K' u => ∃ v5, u = .agg #[.int .i64 h, .int .i64 z2, v5] ∧ K' = fun W => LnsO W wo.heap.size v5 L) (by apply opN; repeat' (first | apply OpAt.z | apply OpAt.s)) (by rfl) (by rfl) (by rfl) (fun W hCW hK => ?_) ?_
          · refine op_x3 rfl rfl rfl rfl rfl cf_of ?_
            refine (hOf1.out W hCW).mono ?_
            rintro e W' ⟨v5, rfl, h4, h5⟩
            exact ⟨_, rfl, hCW.trans (h5.mono hCW.size), _, own_base h4 hCW.size, v5, rfl, rfl⟩
          rintro _ _ ⟨v5, rfl, rfl⟩
          simp only [Act.put, List.setIfInBounds_toArray, List.set_cons_zero, List.set_cons_succ]
          refine k_step (fun K' u => ∃ v9, u = .agg #[.int .i64 h, .int .i64 z2, v9] ∧ K' = fun W => LnsO W wo.heap.size v5 L ∧ LnsO W wo.heap.size v9 L) (by apply opN; repeat' (first | apply OpAt.z | apply OpAt.s)) (by rfl) (by rfl) (by rfl) (fun W hCW hK => ?_) ?_
          · refine op_x3 rfl rfl rfl rfl rfl cf_of ?_
            refine (hOf2.out W hCW).mono ?_
            rintro e W' ⟨v9, rfl, h4, h5⟩
            exact ⟨_, rfl, hCW.trans (h5.mono hCW.size), _, ⟨LnsO.next hK h5, own_base h4 hCW.size⟩, v9, rfl, rfl⟩
          rintro _ _ ⟨v9, rfl, rfl⟩
          simp only [Act.put, List.setIfInBounds_toArray, List.set_cons_zero, List.set_cons_succ]
          refine k_step (fun K' u => u = .bool true ∧ K' = fun _ => True) (by apply opN; repeat' (first | apply OpAt.z | apply OpAt.s)) (by rfl) (by rfl) (by rfl) (fun W hCW hK => ?_) ?_
          · refine op_x2 rfl rfl rfl rfl cf_same ?_
            refine (ssame_any h z2 h z2 v5 v9 L L hll.out hll.out W hK.1.row hK.2.row).mono ?_
            rintro e W' ⟨rfl, h5⟩
            exact ⟨_, rfl, hCW.trans (h5.mono hCW.size), _, trivial, by rw [decide_eq_true ⟨rfl, rfl, rfl⟩], rfl⟩
          rintro _ _ ⟨rfl, rfl⟩
          simp only [Act.put, List.setIfInBounds_toArray, List.set_cons_zero, List.set_cons_succ]
          refine k_val (.bool true) (by apply opN; repeat' (first | apply OpAt.z | apply OpAt.s)) (by rfl) (by rfl) (fun _ W hS => op_pk rfl rfl rfl rfl rfl) ?_
          simp only [Act.put, List.setIfInBounds_toArray, List.set_cons_zero, List.set_cons_succ]
          refine k_val (.bool true) (by apply opN; repeat' (first | apply OpAt.z | apply OpAt.s)) (by rfl) (by rfl) (fun _ W hS => op_mv rfl rfl) ?_
          simp only [Act.put, List.setIfInBounds_toArray, List.set_cons_zero, List.set_cons_succ]
          refine k_val (.agg (bks z1 (.slice a1 n1 cc1))) (by apply opN; repeat' (first | apply OpAt.z | apply OpAt.s)) (by rfl) (by rfl) (fun _ W hS => op_ld rfl rfl (bk_ld ((hQ.out W hS).1.b))) ?_
          simp only [Act.put, List.setIfInBounds_toArray, List.set_cons_zero, List.set_cons_succ]
          refine k_val (.agg (bks z1 (.slice a1 n1 cc1))) (by apply opN; repeat' (first | apply OpAt.z | apply OpAt.s)) (by rfl) (by rfl) (fun _ W hS => op_ld rfl rfl (bk_ld ((hQ.out W hS).1.b))) ?_
          simp only [Act.put, List.setIfInBounds_toArray, List.set_cons_zero, List.set_cons_succ]
          refine k_val (.int .i64 h) (by apply opN; repeat' (first | apply OpAt.z | apply OpAt.s)) (by rfl) (by rfl) (fun _ W hS => op_mv rfl rfl) ?_
          simp only [Act.put, List.setIfInBounds_toArray, List.set_cons_zero, List.set_cons_succ]
          refine k_step (fun K' u => ∃ a6 c6, u = .agg #[.int .i64 h, .int .i64 z1, .slice a6 0 c6] ∧ K' = fun _ => True) (by apply opN; repeat' (first | apply OpAt.z | apply OpAt.s)) (by rfl) (by rfl) (by rfl) (fun W hCW hK => ?_) ?_
          · refine op_x3 rfl rfl rfl rfl rfl cf_of ?_
            refine (hOf3.out W hCW).mono ?_
            rintro e W' ⟨v6, rfl, h4, h5⟩
            obtain ⟨a6, c6, rfl⟩ := lnl_block h4
            exact ⟨_, rfl, hCW.trans (h5.mono hCW.size), _, trivial, a6, c6, rfl, rfl⟩
          rintro _ _ ⟨a6, c6, rfl, rfl⟩
          simp only [Act.put, List.setIfInBounds_toArray, List.set_cons_zero, List.set_cons_succ]
          refine k_val (.slice a6 0 c6) (by apply opN; repeat' (first | apply OpAt.z | apply OpAt.s)) (by rfl) (by rfl) (fun _ W hS => op_fld2 rfl rfl) ?_
          simp only [Act.put, List.setIfInBounds_toArray, List.set_cons_zero, List.set_cons_succ]
          refine k_val (.int .i64 ((0 : Nat) : Int)) (by apply opN; repeat' (first | apply OpAt.z | apply OpAt.s)) (by rfl) (by rfl) (fun _ W hS => op_len_lns rfl rfl) ?_
          simp only [Act.put, List.setIfInBounds_toArray, List.set_cons_zero, List.set_cons_succ]
          refine k_val (.bool true) (by apply opN; repeat' (first | apply OpAt.z | apply OpAt.s)) (by rfl) (by rfl) (fun _ W hS => op_eq1 rfl rfl rfl) ?_
          simp only [Act.put, List.setIfInBounds_toArray, List.set_cons_zero, List.set_cons_succ]
          refine k_val (.bool true) (by apply opN; repeat' (first | apply OpAt.z | apply OpAt.s)) (by rfl) (by rfl) (fun _ W hS => op_pk rfl rfl rfl rfl rfl) ?_
          simp only [Act.put, List.setIfInBounds_toArray, List.set_cons_zero, List.set_cons_succ]
          refine k_val (.bool true) (by apply opN; repeat' (first | apply OpAt.z | apply OpAt.s)) (by rfl) (by rfl) (fun _ W hS => op_mv rfl rfl) ?_
          simp only [Act.put, List.setIfInBounds_toArray, List.set_cons_zero, List.set_cons_succ]
          refine k_val (.agg (bks z2 (.slice a2 n2 cc2))) (by apply opN; repeat' (first | apply OpAt.z | apply OpAt.s)) (by rfl) (by rfl) (fun _ W hS => op_ld rfl rfl (bk_ld ((hQ.out W hS).2.1.b))) ?_
          simp only [Act.put, List.setIfInBounds_toArray, List.set_cons_zero, List.set_cons_succ]
          refine k_val (.agg (bks z2 (.slice a2 n2 cc2))) (by apply opN; repeat' (first | apply OpAt.z | apply OpAt.s)) (by rfl) (by rfl) (fun _ W hS => op_ld rfl rfl (bk_ld ((hQ.out W hS).2.1.b))) ?_
          simp only [Act.put, List.setIfInBounds_toArray, List.set_cons_zero, List.set_cons_succ]
          refine k_step (fun K' u => ∃ a7 c7, u = .slice a7 0 c7 ∧ K' = fun _ => True) (by apply opN; repeat' (first | apply OpAt.z | apply OpAt.s)) (by rfl) (by rfl) (by rfl) (fun W hCW hK => ?_) ?_
          · refine op_x2 rfl rfl rfl rfl cf_all ?_
            refine (hAll.out W hCW).mono ?_
            rintro e W' ⟨v7, vs7, rfl, h4, h5⟩
            obtain ⟨a7, c7, e7⟩ := h4.form
            have e8 : vs7.length = 0 := h4.len
            rw [e8] at e7
            exact ⟨_, rfl, hCW.trans (h5.mono hCW.size), _, trivial, a7, c7, e7, rfl⟩
          rintro _ _ ⟨a7, c7, rfl, rfl⟩
          simp only [Act.put, List.setIfInBounds_toArray, List.set_cons_zero, List.set_cons_succ]
          refine k_val (.int .i64 ((0 : Nat) : Int)) (by apply opN; repeat' (first | apply OpAt.z | apply OpAt.s)) (by rfl) (by rfl) (fun _ W hS => op_len_sts rfl rfl) ?_
          simp only [Act.put, List.setIfInBounds_toArray, List.set_cons_zero, List.set_cons_succ]
          refine k_val (.bool true) (by apply opN; repeat' (first | apply OpAt.z | apply OpAt.s)) (by rfl) (by rfl) (fun _ W hS => op_eq1 rfl rfl rfl) ?_
          simp only [Act.put, List.setIfInBounds_toArray, List.set_cons_zero, List.set_cons_succ]
          refine k_val (.bool true) (by apply opN; repeat' (first | apply OpAt.z | apply OpAt.s)) (by rfl) (by rfl) (fun _ W hS => op_pk rfl rfl rfl rfl rfl) ?_
          simp only [Act.put, List.setIfInBounds_toArray, List.set_cons_zero, List.set_cons_succ]
          refine k_val (.bool true) (by apply opN; repeat' (first | apply OpAt.z | apply OpAt.s)) (by rfl) (by rfl) (fun _ W hS => op_asg rfl rfl) ?_
          simp only [Act.put, List.setIfInBounds_toArray, List.set_cons_zero, List.set_cons_succ]
          refine k_nil ?_
          intro W hCW _
          have hfin := hide (hQ.out W hCW).1.bel
          clear hCW
          go_wp2
          go_ret
          exact ⟨rfl, hfin.out⟩
end Go.Proofs.Ytillplhadimgmaa

/-
  Package royaltyref19: Of: what it returns; only new memory is written.
-/
import Derived.Test.YtillplhadimgmaaSt13
import Derived.Test.YtillplhadimgmaaSt7
import Derived.Test.YtillplhadimgmaaSt8
namespace Go.Proofs.Ytillplhadimgmaa
open Go.RowKit RG
/-- rows of a call's own -/
abbrev RwsO (W : World) (B : Nat) (v : Value) (l : List RW.Rw) : Prop := W.ownsRow B 57 12 v l.length (rowCells RW.rwl l)
theorem rw_info : (Try.prog.info? 57).map (fun i => (i.zero, i.size, i.bytes)) = some (some (.agg #[.int .i64 0, .int .i64 0, .int .i64 0, .int .i64 0, .int .i64 0, .int .i64 0, .int .i64 0, .int .i64 0, .int .i64 0, .int .i64 0, .int .i64 0, .int .i64 0]), 12, 96) := by kernel_rfl
theorem rw_one' (x : RW.Rw) : ∀ u ∈ RW.rwl x, u.oneCell' = true := by
  intro u hu
  simp [RW.rwl] at hu
  rcases hu with rfl | rfl | rfl | rfl | rfl | rfl | rfl | rfl | rfl | rfl | rfl | rfl <;> rfl
theorem RwsO.app {W : World} {B : Nat} {v y : Value} {l m : List RW.Rw} (h : RwsO W B v l) (hl : l.length + m.length ≤ 1000000) (hB : B ≤ W.heap.size) (hy : RwsV W y m) :
    ∃ v' W', (Builtin.append_ #[23, 23] 23 #[v, y]).run Try.prog W = .ok v' W' ∧ RwsO W' B v' (l ++ m) ∧ Below B W W' := by
  obtain ⟨v', W', h1, h2, h3, _, _⟩ := run_app_at (P := Try.prog) 23 Try.underlying23 rw_info (by rfl) (by decide) rw_len rw_one' h hB hy (by unfold maxLen; omega) (by omega)
  exact ⟨v', W', h1, h2, h3⟩
theorem RwsO.row {W : World} {B : Nat} {v : Value} {l : List RW.Rw} (h : RwsO W B v l) : RwsV W v l := rowV_own (B := B) (e := 57) (n := l.length) rw_len (by decide) h
theorem RwsO.empty (W : World) {B : Nat} (hB : B ≤ W.heap.size) : RwsO (W.alloc (.cells #[] 57)) B (.slice (some ⟨W.heap.size, 0, none⟩) 0 0) [] :=
  ⟨rfl, .inr ⟨W.heap.size, 0, #[], rfl, hB, alloc_at1 _ _, Nat.le_refl _, by unfold maxLen; omega, rfl, rfl⟩⟩
theorem op_mtr {ev : Operand → Value} {o : Oper} {w : World} (ho : o.op = .buildSlice 23 0 #[]) : (execOp ev o).run Try.prog w = .ok (.value (.slice (some ⟨w.heap.size, 0, none⟩) 0 0)) (w.alloc (.cells #[] 57)) := by
  unfold execOp
  rw [ho]
  go_simp
theorem fa_bk {b : Nat} (W : World) : (Instr.fieldAt 28 (.pointer (some ⟨b, 0, none⟩)) 2).run Try.prog W = .ok (.pointer (some ⟨b, 2, none⟩)) W := by
  go_simp
theorem sl_ld {W : World} {g i : Nat} {a : Option Addr} {n c : Nat} (h : W.cell? ⟨g, i, none⟩ = some (.slice a n c)) : (ldRow 23 (.pointer (some ⟨g, i, none⟩))).run Try.prog W = .ok (.slice a n c) W := by
  unfold ldRow
  go_simp
/-- the state of the reference's Of: the two books, the result -/
structure RofW (W : World) (B : Nat) (w : World) (zb za : Int) (vb va : Value) : Prop where
  b0 : W.heap[B]? = some (.cells (bks zb vb) 28 (0, 0))
  b1 : W.heap[B + 1]? = some (.cells (bks za va) 28 (0, 0))
  b2 : W.heap[B + 1 + 1]? = some (.cells #[.int .i64 0, .int .i64 0, .slice none 0 0] 39 (0, 0))
  bel : Below B w W
theorem RofW.next {W W' : World} {B n : Nat} {w : World} {zb za : Int} {vb va : Value} (hO : RofW W B w zb za vb va) (hB : Below n W W') (hn : B + 1 + 1 < n) : RofW W' B w zb za vb va :=
  ⟨(hB.block _ (by omega)).trans hO.b0, (hB.block _ (by omega)).trans hO.b1, (hB.block _ (by omega)).trans hO.b2, hO.bel.trans (hB.mono (by omega))⟩
theorem RofW.lt {W : World} {B : Nat} {w : World} {zb za : Int} {vb va : Value} (hO : RofW W B w zb za vb va) : B + 1 + 1 < W.heap.size := (Array.getElem?_eq_some_iff.1 hO.b2).1
theorem RofW.start (w : World) (zb za : Int) (vb va : Value) : RofW (((w.alloc (.cells (bks zb vb) 28)).alloc (.cells (bks za va) 28)).alloc (.cells #[.int .i64 0, .int .i64 0, .slice none 0 0] 39)) w.heap.size w zb za vb va := by
  obtain ⟨W1, h1⟩ : ∃ X, X = w.alloc (.cells (bks zb vb) 28) := ⟨_, rfl⟩
  obtain ⟨W2, h2⟩ : ∃ X, X = W1.alloc (.cells (bks za va) 28) := ⟨_, rfl⟩
  rw [← h1, ← h2]
  have s1 : W1.heap.size = w.heap.size + 1 := by rw [h1, alloc_size]
  have s2 : W2.heap.size = w.heap.size + 1 + 1 := by rw [h2, alloc_size, s1]
  have k1 : W1.heap[w.heap.size]? = some (.cells (bks zb vb) 28 (0, 0)) := by rw [h1]; exact alloc_at1 _ _
  have k2 : W2.heap[w.heap.size + 1]? = some (.cells (bks za va) 28 (0, 0)) := by rw [h2, ← s1]; exact alloc_at1 _ _
  refine ⟨alloc_old _ _ (by rw [h2]; exact alloc_old _ _ k1), alloc_old _ _ k2, by rw [← s2]; exact alloc_at1 _ _, ?_⟩
  have b1 := alloc_bel (Below.refl w.heap.size w) (Nat.le_refl _) (.cells (bks zb vb) 28)
  rw [← h1] at b1
  have b2 := alloc_bel b1 (Nat.le_refl _) (.cells (bks za va) 28)
  rw [← h2] at b2
  exact alloc_bel b2 (Nat.le_refl _) _
namespace RW
theorem pers_snoc (l : List Rw) (r : Rw) (h : Int) : pers (l ++ [r]) h = if r 0 = h then ins (pers l h) (r 1) else pers l h := by
  rw [← pers_nums, ← pers_nums, nums_snoc]
  by_cases e : r 0 = h
  · rw [if_pos (decide_eq_true e), if_pos e, asc_snoc]
  · rw [if_neg (by simp [e]), if_neg e, List.append_nil]
theorem hols_snoc (l : List Rw) (r : Rw) : hols (l ++ [r]) = ins (hols l) (r 0) := by
  unfold hols
  rw [List.map_append, List.map_cons, List.map_nil, asc_snoc]
theorem pers_up (l : List Rw) (h : Int) : (pers l h).Pairwise (· < ·) := asc_up _
theorem hols_up (l : List Rw) : (hols l).Pairwise (· < ·) := asc_up _
end RW
set_option maxRecDepth 10000 in
set_option maxHeartbeats 4000000 in
theorem rof_any (zb za h : Int) (vb va : Value) (lb la : List RW.Rw) (hlb : lb.length ≤ 50) (hla : la.length ≤ 50) (hnb : RW.NearR lb) (hna : RW.NearR la) (w : World) (hvb : RwsV w vb lb) (hva : RwsV w va la) :
    Calls Try.prog 14 #[.agg (bks zb vb), .agg (bks za va), .int .i64 h] w fun e w' => ∃ v, e = .returned (.agg #[.int .i64 h, .int .i64 za, v]) ∧ LnsO w' w.heap.size v (RW.lns lb la h) ∧ Below w.heap.size w w' := by
  obtain ⟨B, hB⟩ : ∃ B, B = w.heap.size := ⟨_, rfl⟩
  have hBH := hide hB
  have hvbH := hide (fun W (hW : Below B w W) => hvb.next (hB ▸ hW))
  have hvaH := hide (fun W (hW : Below B w W) => hva.next (hB ▸ hW))
  have hS0 := hide (RofW.start w zb za vb va)
  have hlbH := hide hlb
  have hlaH := hide hla
  have hnbH := hide hnb
  have hnaH := hide hna
  obtain ⟨ab, cb, hvbe, hcbl, _⟩ := hvb
  obtain ⟨aa, ca, hvae, hcal, _⟩ := hva
  obtain ⟨nb, hnbe⟩ : ∃ n, n = lb.length := ⟨_, rfl⟩
  obtain ⟨na, hnae⟩ : ∃ n, n = la.length := ⟨_, rfl⟩
  rw [← hnbe] at hvbe
  rw [← hnae] at hvae
  subst hvbe hvae
  rw [← hB] at hS0 ⊢
  clear hlb hla hnb hna hcbl hcal hnbe hnae
  have hS1 := hide hS0.out
  unfold bks at hS1 ⊢
  go_enter Try.func14, Try.ntmps14
  go_upto_region 2 with fail
  rw [← hB]
  refine gen_w (fun W => RofW W B w zb za (.slice ab nb cb) (.slice aa na ca)) hS0.out ?_
  clear hS0 hS1 hB
  intro w1 hO1
  have hO1H := hide hO1
  obtain ⟨B1, hB1⟩ : ∃ b, b = w1.heap.size := ⟨_, rfl⟩
  have hB1H := hide hB1
  have hr0 := hide (fun W (hW : Below B1 w1 W) => hO1.next (hB1 ▸ hW) hO1.lt)
  have hlt := hide (show B + 1 + 1 < B1 by rw [hB1]; exact hO1.lt)
  have hs0 := hide (fun W (hW : Below B1 w1 W) => (show B1 ≤ W.heap.size by rw [hB1]; exact (hB1 ▸ hW).size))
  clear hO1
  refine wp_region_k (fun _ W => Below B1 w1 W) (fun _ => True) [0, 3, 6] (.op 1 (.op 2 (.op 4 (.op 5 (.op 0 (.op 3 (.op 6 (.op 7 .nil)))))))) (by kernel_rfl) (by kernel_rfl) (by rfl) (by kernel_rfl) (by rw [hB1]; exact (Below.refl w1.heap.size w1).drew) trivial ?_
  refine k_val (.pointer (some ⟨B, 2, none⟩)) (by apply opN; repeat' (first | apply OpAt.z | apply OpAt.s)) (by rfl) (by rfl) (fun _ W hS => op_fa rfl rfl (fa_bk W)) ?_
  simp only [Act.put, List.setIfInBounds_toArray, List.set_cons_zero, List.set_cons_succ]
  refine k_val (.slice ab nb cb) (by apply opN; repeat' (first | apply OpAt.z | apply OpAt.s)) (by rfl) (by rfl) (fun _ W hS => op_ld rfl rfl (sl_ld (cellAt (hr0.out W hS).b0 2))) ?_
  simp only [Act.put, List.setIfInBounds_toArray, List.set_cons_zero, List.set_cons_succ]
  refine k_val (.pointer (some ⟨B + 1, 2, none⟩)) (by apply opN; repeat' (first | apply OpAt.z | apply OpAt.s)) (by rfl) (by rfl) (fun _ W hS => op_fa rfl rfl (fa_bk W)) ?_
  simp only [Act.put, List.setIfInBounds_toArray, List.set_cons_zero, List.set_cons_succ]
  refine k_val (.slice aa na ca) (by apply opN; repeat' (first | apply OpAt.z | apply OpAt.s)) (by rfl) (by rfl) (fun _ W hS => op_ld rfl rfl (sl_ld (cellAt (hr0.out W hS).b1 2))) ?_
  simp only [Act.put, List.setIfInBounds_toArray, List.set_cons_zero, List.set_cons_succ]
  refine k_step (fun K' u => ∃ g0, u = .slice (some ⟨g0, 0, none⟩) 0 0 ∧ K' = fun W => RwsO W B1 (.slice (some ⟨g0, 0, none⟩) 0 0) []) (by apply opN; repeat' (first | apply OpAt.z | apply OpAt.s)) (by rfl) (by rfl) (by rfl) (fun W hC hK => ?_) ?_
  · exact xup_val (op_mtr rfl) ⟨alloc_bel hC (by rw [hB1]; exact Nat.le_refl _) _, _, RwsO.empty W (hs0.out W hC), _, rfl, rfl⟩
  rintro _ _ ⟨g0, rfl, rfl⟩
  simp only [Act.put, List.setIfInBounds_toArray, List.set_cons_zero, List.set_cons_succ]
  refine k_step (fun K' u => ∃ v3, u = v3 ∧ K' = fun W => RwsO W B1 v3 lb) (by apply opN; repeat' (first | apply OpAt.z | apply OpAt.s)) (by rfl) (by rfl) (by rfl) (fun W hC hK => ?_) ?_
  · obtain ⟨v3, W3, hrun, ho3, hb3⟩ := hK.app (m := lb) (by have := hlbH.out; simp; omega) (hs0.out W hC) (hvbH.out W (hr0.out W hC).bel)
    rw [List.nil_append] at ho3
    exact xup_val (op_app rfl rfl rfl hrun) ⟨hC.trans hb3, _, ho3, _, rfl, rfl⟩
  rintro _ v3 ⟨_, rfl, rfl⟩
  simp only [Act.put, List.setIfInBounds_toArray, List.set_cons_zero, List.set_cons_succ]
  refine k_step (fun K' u => ∃ v6, u = v6 ∧ K' = fun W => RwsO W B1 v6 (lb ++ la)) (by apply opN; repeat' (first | apply OpAt.z | apply OpAt.s)) (by rfl) (by rfl) (by rfl) (fun W hC hK => ?_) ?_
  · obtain ⟨v6, W6, hrun, ho6, hb6⟩ := hK.app (m := la) (by have := hlbH.out; have := hlaH.out; omega) (hs0.out W hC) (hvaH.out W (hr0.out W hC).bel)
    exact xup_val (op_app rfl rfl rfl hrun) ⟨hC.trans hb6, _, ho6, _, rfl, rfl⟩
  rintro _ v6 ⟨_, rfl, rfl⟩
  simp only [Act.put, List.setIfInBounds_toArray, List.set_cons_zero, List.set_cons_succ]
  refine k_val (v6) (by apply opN; repeat' (first | apply OpAt.z | apply OpAt.s)) (by rfl) (by rfl) (fun _ W hS => op_asg rfl rfl) ?_
  simp only [Act.put, List.setIfInBounds_toArray, List.set_cons_zero, List.set_cons_succ]
  refine k_nil ?_
  intro w2 hB2 hK2
  have hR2 := hide hK2.row
  have hB2H := hide hB2
  clear hB2 hK2
  have hO2 := hide (hr0.out w2 hB2H.out)
  obtain ⟨ls, hls⟩ : ∃ l, l = lb ++ la := ⟨_, rfl⟩
  have hlsH := hide hls
  have hlsl := hide (show ls.length ≤ 100 by rw [hls, List.length_append]; have := hlbH.out; have := hlaH.out; omega)
  rw [← hls] at hR2
  obtain ⟨ar, cr, hue, _, har⟩ := hR2.out
  obtain ⟨m, hm⟩ : ∃ m, m = ls.length := ⟨_, rfl⟩
  rw [← hm] at hue
  subst hue
  have hmH := hide hm
  have harH := hide har
  have hm100 : m ≤ 100 := by rw [hm]; exact hlsl.out
  obtain ⟨B2, hB2⟩ : ∃ b, b = w2.heap.size := ⟨_, rfl⟩
  have hB2e := hide hB2
  have hsz := hide (fun W (hW : Below B2 w2 W) => (show B2 ≤ W.heap.size by rw [hB2]; exact (hB2 ▸ hW).size))
  clear hm har hls hB1H hB1 hs0 hO1H hR2 hB2
  go_wp2
  go_loopw [7, 9] (fun u i wr => ∃ (j : Nat), i = .int .i64 j ∧ j ≤ m ∧ Hid (RowV 1 encI wr u (RW.pers (ls.take j) h) ∧ Below B2 w2 wr)) (fun _ i _ => m - (intOf i).toNat)
  case atStart => exact ⟨0, rfl, Nat.zero_le _, RowV.nil _, by rw [hB2e.out]; exact Below.refl _ _⟩
  case round =>
    obtain ⟨j, rfl, hj, hQ⟩ := hrel
    obtain ⟨wo, hwo⟩ : ∃ wo, wo = wr := ⟨_, rfl⟩
    subst hwo
    have hI := hide hQ.out.1
    have hBo := hide hQ.out.2
    clear hQ
    by_cases hjm : j < m
    · obtain ⟨r, hr⟩ : ∃ r, ls[j]? = some r := ⟨_, List.getElem?_eq_getElem (by rw [← hmH.out]; exact hjm)⟩
      obtain ⟨b, o, rfl, hbb, hc⟩ := harH.out.resolve_left (by rintro rfl; simp at hr)
      have hrg : ∀ W, Below B2 w2 W → W.rangeAt b (o + j * 12) (RW.rwl r) := fun W hW i u hu => (World.cell?_of_block (a := ⟨b, o + j * 12 + i, none⟩) (hW.block _ (by rw [hB2e.out]; exact hbb))).trans (hc j r hr i u hu)
      have e0 : wo.cell? ⟨b, o + j * 12, none⟩ = some (.int .i64 (r 0)) := by have := hrg wo hBo.out 0 _ rfl; exact this
      have e1 : wo.cell? ⟨b, o + j * 12 + 1, none⟩ = some (.int .i64 (r 1)) := by have := hrg wo hBo.out 1 _ rfl; exact this
      have htk := hide (show RW.pers (ls.take (j + 1)) h = if r 0 = h then RW.ins (RW.pers (ls.take j) h) (r 1) else RW.pers (ls.take j) h by rw [List.take_add_one, hr, Option.toList_some, RW.pers_snoc])
      have hlen := hide (show (RW.pers (ls.take j) h).length ≤ 1000 by
        have h1 := RW.pers_len (ls.take j) h
        rw [List.length_take] at h1
        have := hlsl.out
        omega)
      obtain ⟨x0, h0⟩ : ∃ x, x = r 0 := ⟨_, rfl⟩
      obtain ⟨x1, h1⟩ : ∃ x, x = r 1 := ⟨_, rfl⟩
      rw [← h0] at e0 htk
      rw [← h1] at e1 htk
      have hC := hide (insert_any _ _ x1 hlen.out (RW.pers_up (ls.take j) h) wo hI.out)
      clear hr hbb hc hrg h0 h1
      by_cases hx : x0 = h
      · have ht2 := hide (show RW.pers (ls.take (j + 1)) h = RW.ins (RW.pers (ls.take j) h) x1 by rw [htk.out, if_pos hx])
        subst hx
        go_wp2_with (go_at_call 28; refine hC.out.mono ?_; rintro e w5 ⟨u5, rfl, hI5, hB5⟩; have hI5H := hide hI5; have hB5H := hide hB5; clear hI5 hB5)
        go_roundw
        case rel => exact ⟨j + 1, by go_num, by omega, by rw [ht2.out]; exact hI5H.out.row, hBo.out.trans (hB5H.out.mono (hsz.out _ hBo.out))⟩
        case measure => simp [intOf]; omega
      · have ht2 := hide (show RW.pers (ls.take (j + 1)) h = RW.pers (ls.take j) h by rw [htk.out, if_neg hx])
        go_wp2
        go_roundw
        case rel => exact ⟨j + 1, by go_num, by omega, by rw [ht2.out]; exact hI.out, hBo.out⟩
        case measure => simp [intOf]; omega
    · obtain rfl : m = j := by omega
      obtain ⟨ps, hps⟩ : ∃ ps, ps = RW.pers (lb ++ la) h := ⟨_, rfl⟩
      have hpsl := hide (show ps.length ≤ 100 by rw [hps]; have h1 := RW.pers_len (lb ++ la) h; rw [List.length_append] at h1; have := hlbH.out; have := hlaH.out; omega)
      have hpsH := hide hps
      have hI2 := hide (show RowV 1 encI wo _ ps by
        have h1 := hI.out
        rwa [List.take_of_length_le (by rw [← hmH.out]; exact Nat.le_refl _), hlsH.out, ← hps] at h1)
      clear hI hps
      obtain ⟨av, cv, hue, _, hav⟩ := hI2.out
      obtain ⟨k, hk⟩ : ∃ k, k = ps.length := ⟨_, rfl⟩
      rw [← hk] at hue
      subst hue
      have hkH := hide hk
      have havH := hide hav
      have hk100 : k ≤ 100 := by rw [hk]; exact hpsl.out
      have hOo := hide (hO2.out.next (hBo.out.mono (Nat.le_of_eq hB2e.out.symm)) hO2.out.lt)
      clear hk hav hI2
      have g1 : wo.cell? ⟨B + 1, 0, none⟩ = some (.int .i64 za) := cellAt hOo.out.b1 0
      obtain ⟨B4, hB4⟩ : ∃ b, b = wo.heap.size := ⟨_, rfl⟩
      have hlt4 := hide (show B + 1 + 1 < B4 by rw [hB4]; exact hOo.out.lt)
      have hA4 := hide (alloc_bel (Below.refl wo.heap.size wo) (Nat.le_refl _) (.cells #[.int .i64 h, .int .i64 za, .slice none 0 0] 39))
      have hg4 := hide (show (wo.alloc (.cells #[.int .i64 h, .int .i64 za, .slice none 0 0] 39)).heap[B4]? = some (.cells #[.int .i64 h, .int .i64 za, .slice none 0 0] 39 (0, 0)) from newAt hB4)
      have hO4 := hide (hOo.out.next hA4.out hOo.out.lt)
      have hav4 := hide (fun j p (hp : ps[j]? = some p) => (show ∃ b o, av = some ⟨b, o, none⟩ ∧ b < B4 ∧ (wo.alloc (.cells #[.int .i64 h, .int .i64 za, .slice none 0 0] 39)).cell? ⟨b, o + j, none⟩ = some (.int .i64 p) from by
        obtain ⟨b, o, e, hb, hc⟩ := havH.out.resolve_left (by rintro rfl; simp at hp)
        exact ⟨b, o, e, by rw [hB4]; exact hb, (World.cell?_of_block (a := ⟨b, o + j, none⟩) (hA4.out.block _ hb)).trans (ints_cell hc hp)⟩))
      go_upto_region 10 with fail
      rw [← hB4]
      clear g1
      refine gen_w (fun W => RofW W B w zb za (.slice ab nb cb) (.slice aa na ca) ∧ W.heap[B4]? = some (.cells #[.int .i64 h, .int .i64 za, .slice none 0 0] 39 (0, 0)) ∧ (∀ j p, ps[j]? = some p → ∃ b o, av = some ⟨b, o, none⟩ ∧ b < B4 ∧ W.cell? ⟨b, o + j, none⟩ = some (.int .i64 p))) ⟨hO4.out, hg4.out, hav4.out⟩ ?_
      clear hO4 hg4 hav4 hA4 hOo hB4 havH hBo
      rintro w3 ⟨hO3', hg3', hav3'⟩
      have hO3 := hide hO3'
      have hg3 := hide hg3'
      have hav3 := hide hav3'
      clear hO3' hg3' hav3'
      obtain ⟨w3s, hw3s⟩ : ∃ n, n = w3.heap.size := ⟨_, rfl⟩
      have hw3sH := hide hw3s
      have hlt5 := hide (show B4 < w3s by rw [hw3s]; exact (Array.getElem?_eq_some_iff.1 hg3.out).1)
      clear hw3s
      go_wp2
      go_loopw [11] (fun i wr => ∃ (j : Nat) (v : Value), i = .int .i64 j ∧ j ≤ k ∧ Hid (RofW wr B w zb za (.slice ab nb cb) (.slice aa na ca) ∧ wr.heap[B4]? = some (.cells #[.int .i64 h, .int .i64 za, v] 39 (0, 0)) ∧ LnsO wr w3s v (RW.lnsP lb la h (ps.take j)) ∧ (∀ j p, ps[j]? = some p → ∃ b o, av = some ⟨b, o, none⟩ ∧ b < B4 ∧ wr.cell? ⟨b, o + j, none⟩ = some (.int .i64 p)) ∧ w3s ≤ wr.heap.size)) (fun i _ => k - (intOf i).toNat)
      case atStart => exact ⟨0, _, rfl, Nat.zero_le _, hO3.out, hg3.out, LnsO.nil _ _, hav3.out, Nat.le_of_eq hw3sH.out⟩
      case round =>
        obtain ⟨j, v, rfl, hj, hQ⟩ := hrel
        obtain ⟨wo2, hwo⟩ : ∃ wo, wo = wr := ⟨_, rfl⟩
        subst hwo
        have hO := hide hQ.out.1
        have hG := hide hQ.out.2.1
        have hL := hide hQ.out.2.2.1
        have hPs := hide hQ.out.2.2.2.1
        have hszo := hide hQ.out.2.2.2.2
        clear hQ hO3 hg3
        by_cases hjk : j < k
        · obtain ⟨p, hp⟩ : ∃ p, ps[j]? = some p := ⟨_, List.getElem?_eq_getElem (by rw [← hkH.out]; exact hjk)⟩
          obtain ⟨b, o, rfl, hbl, hcell⟩ := hPs.out j p hp
          have htk := hide (show ps.take (j + 1) = ps.take j ++ [p] by rw [List.take_add_one, hp]; rfl)
          have hlen := hide (show (RW.lnsP lb la h (ps.take j)).length ≤ 100000 by
            have h1 := RW.lnsP_len lb la h (ps.take j)
            rw [List.length_take] at h1
            have := hpsl.out
            omega)
          obtain ⟨pb, hpb⟩ : ∃ z, z = RW.paid lb h p := ⟨_, rfl⟩
          obtain ⟨pa, hpa⟩ : ∃ z, z = RW.paid la h p := ⟨_, rfl⟩
          have hc1 := hide (rpaid_any zb h p (.slice ab nb cb) lb (by have := hlbH.out; omega) hnbH.out wo2 (hvbH.out wo2 hO.out.bel))
          have hc2 := hide (fun W (hW : Below wo2.heap.size wo2 W) => rpaid_any za h p (.slice aa na ca) la (by have := hlaH.out; omega) hnaH.out W (hvaH.out W (hO.out.bel.trans (hW.mono (by have := hO.out.lt; omega)))))
          rw [← hpb] at hc1
          rw [← hpa] at hc2
          have hsn := hide (show RW.lnsP lb la h (ps.take (j + 1)) = RW.lnsP lb la h (ps.take j) ++ (if RW.dif (p, pb, pa) = true then [(p, pb, pa)] else []) by rw [htk.out, RW.lnsP_snoc, hpb, hpa]; rfl)
          have hgb := hO.out.b0
          have hib : (Try.prog.info? 28).map (·.size) = some (bks zb (.slice ab nb cb)).size := bk_size _ _
          clear hpb hpa hp
          go_upto_region 14 with (first
            | (refine wpList_load_row rfl 28 (.tmp 3) rfl B rfl 28 _ (0, 0) _ hgb Try.underlying28 rfl hib ?_)
            | (go_at_call 29; refine hc1.out.mono ?_; rintro e w4 ⟨rfl, hB4'⟩; have hB4H := hide hB4'; clear hB4'))
          have hO4 := hide (hO.out.next hB4H.out hO.out.lt)
          have hga := hO4.out.b1
          have hia : (Try.prog.info? 28).map (·.size) = some (bks za (.slice aa na ca)).size := bk_size _ _
          have hc2' := hide (hc2.out w4 hB4H.out)
          clear hgb hib hc1 hc2
          go_upto_region 15 with (first
            | (refine wpList_load_row rfl 28 (.tmp 4) rfl (B + 1) rfl 28 _ (0, 0) _ hga Try.underlying28 rfl hia ?_)
            | (go_at_call 29; refine hc2'.out.mono ?_; rintro e w5 ⟨rfl, hB5'⟩; have hB5H := hide hB5'; clear hB5'))
          have hBx := hide (hB4H.out.trans (hB5H.out.mono hB4H.out.size))
          have hOx := hide (hO.out.next hBx.out hO.out.lt)
          have hGx := (hBx.out.block _ (Array.getElem?_eq_some_iff.1 hG.out).1).trans hG.out
          have hLx := hide (hL.out.next hBx.out)
          have hPx := hide (fun j p hp => (show ∃ b' o', some ⟨b, o, none⟩ = some (⟨b', o', none⟩ : Addr) ∧ b' < B4 ∧ w5.cell? ⟨b', o' + j, none⟩ = some (.int .i64 p) from by
            obtain ⟨b', o', e1, e2, e3⟩ := hPs.out j p hp
            exact ⟨b', o', e1, e2, (World.cell?_of_block (a := ⟨b', o' + j, none⟩) (hBx.out.block b' (by have := (Array.getElem?_eq_some_iff.1 hG.out).1; omega))).trans e3⟩))
          have hszx := hide (Nat.le_trans hszo.out hBx.out.size)
          clear hBx hPs hL hO hG hga hia hc2' hcell hO4 hB4H hB5H hszo
          by_cases hd : pb = pa
          · have hf := hide (show RW.dif (p, pb, pa) = false by unfold RW.dif; exact decide_eq_false (fun e => e hd))
            have hGH := hide hGx
            subst hd
            clear hGx
            go_wp2
            go_roundw
            case rel => exact ⟨j + 1, v, by go_num, by omega, hOx.out, hGH.out, by rw [hsn.out, hf.out, if_neg (by decide), List.append_nil]; exact hLx.out, hPx.out, hszx.out⟩
            case measure => simp [intOf]; omega
          · have ht := hide (show RW.dif (p, pb, pa) = true by unfold RW.dif; exact decide_eq_true hd)
            have e4 : w5.cell? ⟨B4, 2, none⟩ = some v := cellAt hGx 2
            obtain ⟨v8, w8, hrun, hL8, hB8⟩ := hLx.out.appNew (p, pb, pa) hlen.out hszx.out
            have hL8H := hide hL8
            have hB8H := hide hB8
            have hG8 := hide ((hB8.block _ hlt5.out).trans hGx)
            have f4 : w8.cell? ⟨B4, 2, none⟩ = some v := cellAt hG8.out 2
            have f4f : w8.frozen? ⟨B4, 2, none⟩ = false := by simp [World.frozen?, hG8.out]
            obtain ⟨a8, n8, hv8⟩ : ∃ a n, v8 = .slice a (RW.lnsP lb la h (ps.take j) ++ [(p, pb, pa)]).length n := lnl_block hL8
            obtain ⟨q8, hq8⟩ : ∃ q, q = (RW.lnsP lb la h (ps.take j) ++ [(p, pb, pa)]).length := ⟨_, rfl⟩
            rw [← hq8] at hv8
            subst hv8
            obtain ⟨av0, cv0, hv0⟩ := lnl_block hLx.out
            obtain ⟨q0, hq0⟩ : ∃ q, q = (RW.lnsP lb la h (ps.take j)).length := ⟨_, rfl⟩
            rw [← hq0] at hv0
            subst hv0
            unfold RW.lnl at hrun
            clear hL8 hB8 hGx hq8 hq0
            go_wp2_with (at_builtin; refine wpList_app_run rfl (.tmp 68) (.tmp 73) rfl rfl rfl hrun ?_)
            have hset : (w8.setCell ⟨B4, 2, none⟩ (.slice a8 q8 n8)).heap[B4]? = some (.cells #[.int .i64 h, .int .i64 za, .slice a8 q8 n8] 39 (0, 0)) := (heap_setCell_same _ _ _ _ _ _ hG8.out).trans rfl
            have hkeep : ∀ k, k ≠ B4 → (w8.setCell ⟨B4, 2, none⟩ (.slice a8 q8 n8)).heap[k]? = w8.heap[k]? := fun k hk => Below.heap_setCell _ _ _ _ hk
            have hO8 := hOx.out.next hB8H.out (by have := hlt4.out; have := hlt5.out; omega)
            have hlt' := hlt4.out
            have hlt5' := hlt5.out
            go_roundw
            case rel => exact ⟨j + 1, _, by go_num, by omega, ⟨(hkeep _ (by omega)).trans hO8.b0, (hkeep _ (by omega)).trans hO8.b1, (hkeep _ (by omega)).trans hO8.b2, hO8.bel.setCell (p := ⟨B4, 2, none⟩) (by show B ≤ B4; omega) _⟩, hset, by rw [hsn.out, ht.out, if_pos rfl]; exact own_keep hL8H.out fun g hg => hkeep g (by have := (own_block hL8H.out hg).1; omega), (fun j p hp => by
              obtain ⟨b', o', e1, e2, e3⟩ := hPx.out j p hp
              exact ⟨b', o', e1, e2, (World.cell?_of_block (a := ⟨b', o' + j, none⟩) ((hkeep b' (by omega)).trans (hB8H.out.block b' (by omega)))).trans e3⟩), by rw [show (w8.setCell ⟨B4, 2, none⟩ (.slice a8 q8 n8)).heap.size = w8.heap.size by simp [World.setCell]]; exact Nat.le_trans hszx.out hB8H.out.size⟩
            case measure => simp [intOf]; omega
        · obtain rfl : k = j := by omega
          have hL2 := hide (show LnsO wo2 w3s v (RW.lns lb la h) by
            have h1 := hL.out
            rw [List.take_of_length_le (by rw [← hkH.out]; exact Nat.le_refl _), hpsH.out] at h1
            exact h1)
          obtain ⟨a9, n9, hv9⟩ := lnl_block hL2.out
          obtain ⟨q9, hq9⟩ : ∃ q, q = (RW.lns lb la h).length := ⟨_, rfl⟩
          rw [← hq9] at hv9
          subst hv9
          clear hq9
          have g4 := hG.out
          have g3 := hO.out.b2
          have hi : (Try.prog.info? 39).map (·.size) = some (#[Value.int .i64 h, .int .i64 za, .slice a9 q9 n9] : Array Value).size := st_size (h, za, .slice a9 q9 n9)
          have hone : (#[Value.int .i64 h, .int .i64 za, .slice a9 q9 n9] : Array Value).all (·.oneCell') = true := by simp; exact ⟨rfl, rfl, rfl⟩
          go_wp2_with (first
            | (refine wpList_load_row rfl 39 (.tmp 10) rfl B4 rfl 39 _ (0, 0) _ g4 Try.underlying39 rfl hi ?_)
            | (refine wpList_store_row rfl 39 (.tmp 6) (.tmp 76) rfl (B + 1 + 1) #[.int .i64 h, .int .i64 za, .slice a9 q9 n9] rfl rfl 39 _ g3 hi rfl hone ?_))
          have hlt' := hlt4.out
          have hlt5' := hlt5.out
          refine bodyPost_ret (results_cell_row rfl _ _ (B + 1 + 1) 39 #[.int .i64 h, .int .i64 za, .slice a9 q9 n9] (0, 0) _ rfl (setRow_heap _ _ _ _ _ _ hO.out.b2) Try.underlying39 rfl hi) rfl ⟨.slice a9 q9 n9, rfl, ?_, ?_⟩
          · exact own_base (own_setRow hL2.out _ (by omega) _) (by omega)
          · exact belowSetRow (hBH.out ▸ hO.out.bel) (by omega) _
end Go.Proofs.Ytillplhadimgmaa

/-
  Package royaltyref10: Clusters, Degree, Joined: what they return; only new memory is written.
-/
import Derived.Test.YtbmlfejlmedmgaaG17
namespace Go.Proofs.Ytbmlfejlmedmgaa
open Go.RowKit RG
namespace RW
theorem gpk_key (k : Int → Nd) (A : List Int) {a b : Int} (h : k a = k b) : gpk k A a = gpk k A b := by
  unfold gpk
  congr 1
  funext y
  rw [h]
theorem cAcc_gpk {l : List Ed} {a : Int} (ha : a ∈ accs l) : cAcc l a = gpk (fun a => rOf l (false, a)) (accs l) a := by
  unfold cAcc gpk
  rw [if_pos (List.contains_iff_mem.2 ha)]
/-- is an account the first one of its cluster? -/
def fst1 (l : List Ed) (a : Int) : Bool := decide ((cAcc l a).head? = some a)
theorem cls_ref (l : List Ed) : cls l = ((accs l).filter (fst1 l)).map (cAcc l) := by
  have hF : fsts (fun a => rOf l (false, a)) (accs l) = (accs l).filter (fst1 l) := by
    refine asc_eq ((asc_up _).sublist (fsts_sub _ _)) ((asc_up _).filter _) fun a => ?_
    rw [List.mem_filter]
    unfold fst1
    rw [decide_eq_true_eq]
    constructor
    · intro ha
      have hA := (fsts_sub _ _).subset ha
      obtain ⟨r, hr⟩ := gpk_head _ _ a ha
      exact ⟨hA, by rw [cAcc_gpk hA, hr]; rfl⟩
    · rintro ⟨hA, hh⟩
      obtain ⟨b, hb, hk⟩ := (gst_eq (fun a => rOf l (false, a)) (accs l)).2.1 a hA
      obtain ⟨r, hr⟩ := gpk_head _ _ b hb
      rw [cAcc_gpk hA, gpk_key _ _ hk.symm, hr] at hh
      have : b = a := Option.some.inj hh
      exact this ▸ hb
  rw [cls_eq, hF]
  apply List.map_congr_left
  intro a ha
  rw [cAcc_gpk (List.mem_filter.1 ha).1]
theorem jn_ref (l : List Ed) (a b : Int) : jn l a b = (decide (a = b) || (cAcc l a).contains b) := by
  rw [Bool.eq_iff_iff, Bool.or_eq_true, decide_eq_true_eq, List.contains_iff_mem, mem_cAcc]
  unfold jn
  rw [decide_eq_true_eq]
  constructor
  · intro h
    by_cases hab : a = b
    · exact .inl hab
    · right
      have ha : a ∈ accs l := Classical.byContradiction fun hn => by
        obtain ⟨k1, k2⟩ := acc_alone l a fun e he q => hn (mem_accs.2 ⟨e, he, q⟩)
        rw [k1] at h
        have := k2 _ h.symm
        exact hab (by cases this; rfl)
      have hb : b ∈ accs l := Classical.byContradiction fun hn => by
        obtain ⟨k1, k2⟩ := acc_alone l b fun e he q => hn (mem_accs.2 ⟨e, he, q⟩)
        rw [k1] at h
        have := k2 _ h
        exact hab (by cases this; rfl)
      exact ⟨ha, hb, h.symm⟩
  · rintro (rfl | h)
    · rfl
    · exact h.2.2.symm
end RW
/-- the call's own list of the call's own lists -/
structure OutB (W : World) (B : Nat) (vo : Value) (vs : List Value) (gs : List (List Int)) : Prop where
  row : W.ownsRow B 27 1 vo vs.length vs
  len : vs.length = gs.length
  el : ∀ (i : Nat) (u : Value) (x : List Int), vs[i]? = some u → gs[i]? = some x → IntsO W B u x
section
variable {W W' : World} {B : Nat} {vo u v : Value} {vs : List Value} {gs : List (List Int)} {x : List Int}
theorem OutB.next (h : OutB W B vo vs gs) (hB : Below W.heap.size W W') : OutB W' B vo vs gs :=
  ⟨own_keep h.row fun g hg => hB.block _ (own_block h.row hg).2.1, h.len, fun i u x hu hx => (h.el i u x hu hx).next hB⟩
theorem OutB.form (h : OutB W B vo vs gs) : ∃ a c, vo = .slice a vs.length c := by
  rcases h.row.2 with ⟨rfl, h0⟩ | ⟨g, cap, cur, rfl, _⟩
  · exact ⟨none, 0, by rw [h0]⟩
  · exact ⟨_, _, rfl⟩
theorem OutB.app (h : OutB W B vo vs gs) (hv : IntsO W B v x) (hl : vs.length ≤ 1000000) (hB : B ≤ W.heap.size) :
    ∃ v' W', (Builtin.append_ #[33, 33] 33 #[vo, .slice (some ⟨W.heap.size, 0, none⟩) 1 1]).run Try.prog (W.alloc (.cells #[v] 27)) = .ok v' W' ∧ OutB W' B v' (vs ++ [v]) (gs ++ [x]) ∧ Below B W W' := by
  have hA := alloc_bel (Below.refl W.heap.size W) (Nat.le_refl _) (.cells #[v] 27)
  have hg := alloc_at1 W (.cells #[v] 27)
  have h1 := h.next hA
  have hv1 := hv.next hA
  obtain ⟨i0, hi, hz0, hz1, hz2⟩ := info_parts ll_info
  obtain ⟨v', W', hr, ho, hgr, _, _⟩ := run_append_own_at (P := Try.prog) (w := W.alloc (.cells #[v] 27)) B 33 33 27 i0 (.slice none 0 0) 1 24 Try.underlying33 hi hz0 hz1 hz2 rfl (by decide) vo vs.length vs h1.row ⟨W.heap.size, 0, none⟩ 1 1 [v] rfl (fun j q hj => by
    rcases j with _ | j
    · simp at hj
      subst hj
      exact cellAt hg 0
    · simp at hj) (fun q hq => by
      obtain ⟨a, c, e⟩ := hv.form
      simp at hq
      rw [hq, e]
      rfl) (by unfold maxLen; omega) (by omega) (Nat.le_trans hB hA.size)
  have hC : ChgS (fun j => vo.ownBlock = some j) (W.alloc (.cells #[v] 27)) W' := ⟨hgr.os, hgr.tape, hgr.output, hgr.size, fun k hk hn => hgr.block k hk fun e => hn e.symm⟩
  have hkeep : ∀ (q : Value) (y : List Int), IntsO (W.alloc (.cells #[v] 27)) B q y → IntsO W' B q y := fun q y hq => own_keep hq fun g hg => hC.block _ (own_block hq hg).2.1 fun e => by
    obtain ⟨c1, k1⟩ := (own_block h1.row e).2.2
    obtain ⟨c2, k2⟩ := own_cells hq hg
    exact blocks_ne k1 k2 (by decide) rfl
  refine ⟨v', W', hr, ⟨by rw [List.length_append]; exact ho, by rw [List.length_append, List.length_append, h.len]; rfl, fun i q y hq hy => ?_⟩, (hA.mono hB).trans (hC.below (fun k hk => (own_block h1.row hk).1) (Nat.le_trans hB hA.size))⟩
  rcases Nat.lt_or_ge i vs.length with hi | hi
  · rw [List.getElem?_append_left hi] at hq
    rw [List.getElem?_append_left (by rw [← h.len]; exact hi)] at hy
    exact hkeep q y (h1.el i q y hq hy)
  · rw [List.getElem?_append_right hi] at hq
    rw [List.getElem?_append_right (by rw [← h.len]; exact hi)] at hy
    rcases hii : i - vs.length with _ | k
    · rw [hii] at hq
      rw [← h.len, hii] at hy
      simp at hq hy
      subst hq hy
      exact hkeep v _ hv1
    · rw [hii] at hq
      simp at hq
theorem OutB.ll (h : OutB W B vo vs gs) : LL W vo gs := ⟨vs, rowV_own (k := 1) (enc := fun u : Value => [u]) (B := B) (e := 27) (n := vs.length) (fun _ => rfl) (by decide) (by rw [rowCells_v]; exact h.row), h.len, fun i u x hu hx => (h.el i u x hu hx).row⟩
end
set_option maxRecDepth 10000 in
set_option maxHeartbeats 4000000 in
theorem rdegree_any (v : Value) (l : List RW.Ed) (d : Int) (hl : l.length ≤ 400) (w : World) (hv : RowV 2 RW.edl w v l) :
    Calls Try.prog 20 #[v, .int .i64 d] w fun e w' => e = .returned (.int .i64 (RW.dgr l d : Int)) ∧ Below w.heap.size w w' := by
  obtain ⟨av, cv, rfl, hcv, hav⟩ := hv
  obtain ⟨m, hm⟩ : ∃ m, m = l.length := ⟨_, rfl⟩
  have hmH := hide hm
  have hpin := hide (fun (j : Nat) (e : RW.Ed) (he : l[j]? = some e) => rowV_pin (show RowV 2 RW.edl w (.slice av l.length cv) l from ⟨av, cv, rfl, hcv, hav⟩) he)
  rw [← hm] at hl ⊢
  obtain ⟨B, hB⟩ : ∃ B, B = w.heap.size := ⟨_, rfl⟩
  have hBH := hide hB
  have hsz := hide (fun W (h : Below B w W) => (show B ≤ W.heap.size by rw [hB]; exact hB ▸ h.size))
  rw [← hB]
  clear hm hav hB hcv
  go_enter Try.func20, Try.ntmps20
  go_wp2
  go_loopw [5, 6] (fun u i wr => ∃ j : Nat, i = .int .i64 j ∧ j ≤ m ∧ Hid (RowV 1 encI wr u (RW.asc (((l.take j).filter fun e => decide (e.2 = d)).map (·.1))) ∧ Below B w wr)) (fun _ i _ => m - (intOf i).toNat)
  case atStart => exact ⟨0, rfl, Nat.zero_le _, RowV.nil _, by rw [hBH.out]; exact Below.refl _ _⟩
  case round =>
    obtain ⟨j, rfl, hj, hQ⟩ := hrel
    obtain ⟨wo, hwo⟩ : ∃ wo, wo = wr := ⟨_, rfl⟩
    subst hwo
    have hO := hide hQ.out.1
    have hBw := hide hQ.out.2
    clear hQ
    have hlen := hide (show (RW.asc (((l.take j).filter fun e => decide (e.2 = d)).map (·.1))).length ≤ 1000 by
      have h1 := RW.asc_len (((l.take j).filter fun e => decide (e.2 = d)).map (·.1))
      have h2 := List.length_filter_le (fun e : RW.Ed => decide (e.2 = d)) (l.take j)
      rw [List.length_map] at h1
      rw [List.length_take] at h2
      omega)
    by_cases hjm : j < m
    · obtain ⟨⟨ac, dv⟩, hx⟩ : ∃ x, l[j]? = some x := ⟨_, List.getElem?_eq_getElem (by rw [← hmH.out]; exact hjm)⟩
      obtain ⟨be, oe, rfl, pe⟩ := hpin.out j _ hx
      have e0 : wo.cell? ⟨be, oe + j * 2, none⟩ = some (.int .i64 ac) := pe wo (hBH.out ▸ hBw.out) 0 _ rfl
      have e1 : wo.cell? ⟨be, oe + j * 2 + 1, none⟩ = some (.int .i64 dv) := pe wo (hBH.out ▸ hBw.out) 1 _ rfl
      have hfs := hide (RW.filter_snoc (fun e : RW.Ed => decide (e.2 = d)) l j (ac, dv) hx)
      have hIn := hide (insert_any _ _ ac hlen.out (RW.asc_up _) wo hO.out)
      clear hx pe
      by_cases hd : dv = d
      · go_wp2_with (go_at_call 25; refine hIn.out.mono ?_; rintro e w6 ⟨u6, rfl, q1, q⟩; have g1 := hide q1.row; have g3 := hide (hBw.out.trans (q.mono (hsz.out _ hBw.out))); clear q q1)
        go_roundw
        case rel => exact ⟨j + 1, by go_num, by omega, by rw [hfs.out, if_pos (decide_eq_true hd), List.map_append]; exact (RW.asc_snoc _ _).symm ▸ g1.out, g3.out⟩
        case measure => simp [intOf]; omega
      · go_wp2
        go_roundw
        case rel => exact ⟨j + 1, by go_num, by omega, by rw [hfs.out, if_neg (by simpa using hd), List.append_nil]; exact hO.out, hBw.out⟩
        case measure => simp [intOf]; omega
    · obtain rfl : m = j := by omega
      have htl : l.take m = l := List.take_of_length_le (by rw [← hmH.out]; exact Nat.le_refl _)
      rw [htl] at hO
      obtain ⟨a, c, hu, _, _⟩ := hO.out
      rw [show (RW.asc ((l.filter fun e => decide (e.2 = d)).map (·.1))).length = RW.dgr l d from rfl] at hu
      subst hu
      clear htl
      go_wp2
      go_ret
      exact ⟨rfl, hBH.out ▸ hBw.out⟩
set_option maxRecDepth 10000 in
set_option maxHeartbeats 4000000 in
theorem rjoined_any (v : Value) (l : List RW.Ed) (a b : Int) (hl : l.length ≤ 400) (w : World) (hv : RowV 2 RW.edl w v l) :
    Calls Try.prog 15 #[v, .int .i64 a, .int .i64 b] w fun e w' => e = .returned (.bool (RW.jn l a b)) ∧ Below w.heap.size w w' := by
  have hC := hide (rcluster_any v l a hl w hv)
  have hj := hide (RW.jn_ref l a b)
  have hln := hide (show (RW.cAcc l a).length ≤ 1000000 by have := RW.asc_sub_len (C := RW.accs l) (RW.cAcc_up l a) (RW.asc_up _) (fun x hx => (RW.mem_cAcc.1 hx).2.1); have h2 := RW.accs_len l; omega)
  obtain ⟨av, cv, rfl, _, _⟩ := hv
  obtain ⟨m, hm⟩ : ∃ m, m = l.length := ⟨_, rfl⟩
  obtain ⟨X, hX⟩ : ∃ X, X = RW.cAcc l a := ⟨_, rfl⟩
  rw [← hX] at hC hj hln
  rw [← hm] at hC ⊢
  obtain ⟨q, hq⟩ : ∃ q, q = RW.jn l a b := ⟨_, rfl⟩
  rw [← hq] at hj ⊢
  clear hm hX hq hl
  go_enter Try.func15, Try.ntmps15
  go_upto_region 2 with (go_at_call 12; refine hC.out.mono ?_; rintro e w1 ⟨u1, u2, rfl, q1, q2, q⟩; have g1 := hide q1.row; have g2 := hide q; clear q1 q2 q)
  by_cases hab : a = b
  · have hq2 := hide (show q = true by rw [hj.out, decide_eq_true hab]; rfl)
    go_wp2
    go_ret
    exact ⟨by rw [hq2.out] <;> rfl, g2.out⟩
  · have hq2 := hide (show q = X.contains b by rw [hj.out, decide_eq_false hab]; rfl)
    have hH := hide (has_any u1 X b hln.out w1 g1.out)
    rw [← hq2.out] at hH
    have hab2 : (a == b) = false := by simp [hab]
    go_wp2_with (go_at_call 21; refine hH.out.mono ?_; rintro e w' ⟨rfl, rfl⟩)
    go_ret
    exact ⟨rfl, g2.out⟩
set_option maxRecDepth 10000 in
set_option maxHeartbeats 4000000 in
theorem rclusters_any (v : Value) (l : List RW.Ed) (hl : l.length ≤ 400) (w : World) (hv : RowV 2 RW.edl w v l) :
    Calls Try.prog 18 #[v] w fun e w' => ∃ u, e = .returned u ∧ LL w' u (RW.cls l) ∧ Below w.heap.size w w' := by
  have hvH := hide hv
  obtain ⟨av, cv, rfl, hcv, hav⟩ := hv
  obtain ⟨m, hm⟩ : ∃ m, m = l.length := ⟨_, rfl⟩
  have hmH := hide hm
  have hpin := hide (fun (j : Nat) (e : RW.Ed) (he : l[j]? = some e) => rowV_pin (show RowV 2 RW.edl w (.slice av l.length cv) l from ⟨av, cv, rfl, hcv, hav⟩) he)
  have hlH := hide hl
  rw [← hm] at hl hvH ⊢
  obtain ⟨B, hB⟩ : ∃ B, B = w.heap.size := ⟨_, rfl⟩
  have hBH := hide hB
  have hsz := hide (fun W (h : Below B w W) => (show B ≤ W.heap.size by rw [hB]; exact hB ▸ h.size))
  have hCl := hide (fun x W (h : Below B w W) => rcluster_any _ l x hlH.out W (hvH.out.next (hB ▸ h)))
  rw [← hB]
  clear hm hav hB hcv
  go_enter Try.func18, Try.ntmps18
  go_wp2
  go_loopw [3, 4] (fun u i wr => ∃ j : Nat, i = .int .i64 j ∧ j ≤ m ∧ Hid (RowV 1 encI wr u (RW.asc ((l.take j).map (·.1))) ∧ Below B w wr)) (fun _ i _ => m - (intOf i).toNat)
  case atStart => exact ⟨0, rfl, Nat.zero_le _, RowV.nil _, by rw [hBH.out]; exact Below.refl _ _⟩
  case round =>
    obtain ⟨j, rfl, hj, hQ⟩ := hrel
    obtain ⟨wo, hwo⟩ : ∃ wo, wo = wr := ⟨_, rfl⟩
    subst hwo
    have hO := hide hQ.out.1
    have hBw := hide hQ.out.2
    clear hQ
    have hlen := hide (show (RW.asc ((l.take j).map (·.1))).length ≤ 1000 by
      have h1 := RW.asc_len ((l.take j).map (·.1))
      rw [List.length_map, List.length_take] at h1
      omega)
    by_cases hjm : j < m
    · obtain ⟨⟨ac, dv⟩, hx⟩ : ∃ x, l[j]? = some x := ⟨_, List.getElem?_eq_getElem (by rw [← hmH.out]; exact hjm)⟩
      obtain ⟨be, oe, rfl, pe⟩ := hpin.out j _ hx
      have e0 : wo.cell? ⟨be, oe + j * 2, none⟩ = some (.int .i64 ac) := pe wo (hBH.out ▸ hBw.out) 0 _ rfl
      have htk := hide (show (l.take (j + 1)).map (·.1) = (l.take j).map (·.1) ++ [ac] by rw [List.take_add_one, hx, List.map_append]; rfl)
      have hIn := hide (insert_any _ _ ac hlen.out (RW.asc_up _) wo hO.out)
      clear hx pe
      go_wp2_with (go_at_call 25; refine hIn.out.mono ?_; rintro e w6 ⟨u6, rfl, q1, q⟩; have g1 := hide q1.row; have g3 := hide (hBw.out.trans (q.mono (hsz.out _ hBw.out))); clear q q1)
      go_roundw
      case rel => exact ⟨j + 1, by go_num, by omega, by rw [htk.out]; exact (RW.asc_snoc _ _).symm ▸ g1.out, g3.out⟩
      case measure => simp [intOf]; omega
    · obtain rfl : m = j := by omega
      have htl : l.take m = l := List.take_of_length_le (by rw [← hmH.out]; exact Nat.le_refl _)
      rw [htl] at hO hlen
      obtain ⟨A, hA⟩ : ∃ A, A = RW.accs l := ⟨_, rfl⟩
      have hAH := hide hA
      rw [show RW.asc (l.map (·.1)) = A from hA.symm] at hO hlen
      have hAr := hO.out
      obtain ⟨aa, ca, hu, _, _⟩ := hAr
      subst hu
      obtain ⟨na, hna⟩ : ∃ n, n = A.length := ⟨_, rfl⟩
      have hnaH := hide hna
      rw [← hna] at hO
      rw [← hna]
      have hna3 : na ≤ 1000 := by rw [hna]; exact hlen.out
      obtain ⟨B2, hB2⟩ : ∃ b, b = wo.heap.size := ⟨_, rfl⟩
      have hB2H := hide hB2
      have t4 := hide (fun W (h : Below B2 wo W) => (show Below B w W from hBw.out.trans (h.mono (by rw [hB2]; exact hsz.out _ hBw.out))))
      have ts := hide (fun W (h : Below B2 wo W) => (show B2 ≤ W.heap.size by rw [hB2]; exact (hB2 ▸ h).size))
      clear htl hA hna hB2
      go_wp2
      go_loopw [5, 6] (fun u i wr => ∃ j : Nat, i = .int .i64 j ∧ j ≤ na ∧ Hid (∃ us, OutB wr B2 u us (((A.take j).filter (RW.fst1 l)).map (RW.cAcc l)) ∧ Below B2 wo wr)) (fun _ i _ => na - (intOf i).toNat)
      case atStart => exact ⟨0, rfl, Nat.zero_le _, [], ⟨⟨rfl, .inl ⟨rfl, rfl⟩⟩, rfl, fun i v x h => by simp at h⟩, by rw [hB2H.out]; exact Below.refl _ _⟩
      case round =>
        obtain ⟨j, rfl, hj2, hQ⟩ := hrel
        obtain ⟨wp, hwp⟩ : ∃ wp, wp = wr := ⟨_, rfl⟩
        subst hwp
        obtain ⟨us, k1, k2⟩ := hQ.out
        have hOu := hide k1
        have hB5 := hide k2
        clear hQ k1 k2
        by_cases hjm : j < na
        · obtain ⟨x, hx⟩ : ∃ x, A[j]? = some x := ⟨_, List.getElem?_eq_getElem (by rw [← hnaH.out]; exact hjm)⟩
          obtain ⟨ba, oa, rfl, pa⟩ := rowV_pin hO.out hx
          have px := hide (fun W (h : Below B2 wo W) => pin1 (pa W (hB2H.out ▸ h)))
          have hxA : x ∈ RW.accs l := hAH.out ▸ List.mem_of_getElem? hx
          have hxC : x ∈ RW.cAcc l x := RW.mem_cAcc.2 ⟨hxA, hxA, rfl⟩
          obtain ⟨h0, r0, hc0⟩ : ∃ a r, RW.cAcc l x = a :: r := by
            cases hcc : RW.cAcc l x with
            | nil => rw [hcc] at hxC; cases hxC
            | cons a r => exact ⟨a, r, rfl⟩
          have hc0H := hide hc0
          have hfs := hide (RW.filter_snoc (RW.fst1 l) A j x hx)
          have hf1 := hide (show RW.fst1 l x = decide (h0 = x) by
            unfold RW.fst1
            rw [hc0]
            exact decide_eq_decide.2 ⟨fun h => Option.some.inj h, fun h => by rw [h]; rfl⟩)
          have hCx := hide (hCl.out x wp (t4.out wp hB5.out))
          have e0 : wp.cell? ⟨ba, oa + j, none⟩ = some (.int .i64 x) := px.out wp hB5.out
          clear hx pa hxA hxC hc0
          go_upto_region 11 with (go_at_call 12; refine hCx.out.mono ?_; rintro e w6 ⟨u1, u2, rfl, q1, q2, q⟩; have g1 := hide (show IntsO w6 B2 u1 (RW.cAcc l x) from own_base q1 (ts.out _ hB5.out)); have g2 := hide (hOu.out.next q); have g3 := hide (hB5.out.trans (q.mono (ts.out _ hB5.out))); clear q q1 q2)
          have e1 : w6.cell? ⟨ba, oa + j, none⟩ = some (.int .i64 x) := px.out w6 g3.out
          obtain ⟨a1, c1, hu1⟩ := IntsO.form (W := w6) (B := B2) g1.out
          subst hu1
          obtain ⟨n1, hn1⟩ : ∃ n, n = (RW.cAcc l x).length := ⟨_, rfl⟩
          have hn1H := hide hn1
          have hn10 : 0 < n1 := by rw [hn1, hc0H.out]; simp
          have hrow := IntsO.row (W := w6) (B := B2) g1.out
          rw [← hn1] at hrow
          obtain ⟨b1, o1, ha1, p1⟩ := rowV_pin (i := 0) (x := h0) hrow (by rw [hc0H.out]; rfl)
          subst ha1
          have e2 : w6.cell? ⟨b1, o1, none⟩ = some (.int .i64 h0) := pin1 (p1 w6 (Below.refl _ _))
          have g1b := hide (show IntsO w6 B2 (.slice (some ⟨b1, o1, none⟩) n1 c1) (RW.cAcc l x) by rw [hn1]; exact g1.out)
          rw [← hn1]
          clear hn1 hrow p1
          by_cases hhx : h0 = x
          · have hf2 := hide (hf1.out.trans (decide_eq_true hhx))
            go_wp2
            go_quiet (fail)
            go_upto_region 12 with fail
            refine gen_w (fun W => OutB W B2 _ us (((A.take j).filter (RW.fst1 l)).map (RW.cAcc l)) ∧ IntsO W B2 (.slice (some ⟨b1, o1, none⟩) n1 c1) (RW.cAcc l x) ∧ Below B2 wo W) ⟨OutB.next g2.out ⟨rfl, rfl, rfl, Nat.le_refl _, fun _ _ => rfl⟩, IntsO.next (W := w6) (B := B2) g1b.out ⟨rfl, rfl, rfl, Nat.le_refl _, fun _ _ => rfl⟩, ⟨g3.out.os, g3.out.tape, g3.out.output, g3.out.size, g3.out.block⟩⟩ ?_
            rintro w7 ⟨x1, x2, x3⟩
            obtain ⟨v8, w8, hrun, hO8, hB8⟩ := OutB.app x1 x2 (by rw [x1.len, List.length_map]; exact Nat.le_trans (List.length_filter_le _ _) (by rw [List.length_take]; omega)) (ts.out _ x3)
            have hO8H := hide hO8
            have hB8H := hide (x3.trans hB8)
            clear hO8 hB8 x1 x2 x3
            go_wp2_with (at_builtin; refine wpList_app_run rfl (.tmp 45) (.tmp 47) rfl rfl rfl hrun ?_)
            go_roundw
            case rel => exact ⟨j + 1, by go_num, by omega, _, by rw [hfs.out, hf2.out, if_pos rfl, List.map_append]; exact hO8H.out, hB8H.out⟩
            case measure => simp [intOf]; omega
          · have hf2 := hide (hf1.out.trans (decide_eq_false hhx))
            go_wp2
            go_quiet (fail)
            go_wp2
            go_roundw
            case rel => exact ⟨j + 1, by go_num, by omega, us, by rw [hfs.out, hf2.out, if_neg Bool.false_ne_true, List.append_nil]; exact OutB.next g2.out ⟨rfl, rfl, rfl, Nat.le_refl _, fun _ _ => rfl⟩, ⟨g3.out.os, g3.out.tape, g3.out.output, g3.out.size, g3.out.block⟩⟩
            case measure => simp [intOf]; omega
        · obtain rfl : na = j := by omega
          have htl : A.take na = A := List.take_of_length_le (by rw [← hnaH.out]; exact Nat.le_refl _)
          rw [htl, hAH.out, ← RW.cls_ref] at hOu
          obtain ⟨au, cu, hu⟩ := hOu.out.form
          clear htl
          go_wp2
          go_ret
          exact ⟨_, rfl, hOu.out.ll, hBH.out ▸ t4.out _ hB5.out⟩
end Go.Proofs.Ytbmlfejlmedmgaa

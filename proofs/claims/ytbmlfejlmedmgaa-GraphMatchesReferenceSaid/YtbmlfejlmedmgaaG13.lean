/-
  Package royaltylaw10: GraphOrder: it returns true; only new memory is written.
-/
import Derived.Test.YtbmlfejlmedmgaaG12
import Derived.Test.YtbmlfejlmedmgaaGP2
namespace Go.Proofs.Ytbmlfejlmedmgaa
open Go.RowKit RG
namespace RW
/-- two elements changed about -/
def swp (M : List Ed) (a b : Nat) (x y : Ed) : List Ed := (M.set a y).set b x
theorem mem_swp {M : List Ed} {a b : Nat} {x y : Ed} (ha : M[a]? = some x) (hb : M[b]? = some y) (e : Ed) : e ∈ swp M a b x y ↔ e ∈ M := by
  have hal := (List.getElem?_eq_some_iff.1 ha).1
  have hbl := (List.getElem?_eq_some_iff.1 hb).1
  have hget : ∀ j, (swp M a b x y)[j]? = if j = b then some x else if j = a then some y else M[j]? := fun j => by
    unfold swp
    by_cases h1 : j = b
    · subst h1
      rw [if_pos rfl, List.getElem?_set_self (by rw [List.length_set]; exact hbl)]
    · rw [if_neg h1, List.getElem?_set_ne (Ne.symm h1)]
      by_cases h2 : j = a
      · subst h2
        rw [if_pos rfl, List.getElem?_set_self hal]
      · rw [if_neg h2, List.getElem?_set_ne (Ne.symm h2)]
  constructor
  · intro he
    obtain ⟨j, hj⟩ := List.getElem?_of_mem he
    rw [hget] at hj
    split at hj
    · cases hj; exact List.mem_of_getElem? ha
    · split at hj
      · cases hj; exact List.mem_of_getElem? hb
      · exact List.mem_of_getElem? hj
  · intro he
    obtain ⟨j, hj⟩ := List.getElem?_of_mem he
    by_cases h1 : j = b
    · have : (swp M a b x y)[a]? = some e := by
        rw [hget]
        by_cases h2 : a = b
        · rw [if_pos h2]
          rw [h1, ← h2, ha] at hj
          exact hj
        · rw [if_neg h2, if_pos rfl]
          rw [h1, hb] at hj
          exact hj
      exact List.mem_of_getElem? this
    · by_cases h2 : j = a
      · have : (swp M a b x y)[b]? = some e := by
          rw [hget, if_pos rfl]
          rw [h2, ha] at hj
          exact hj
        exact List.mem_of_getElem? this
      · have : (swp M a b x y)[j]? = some e := by rw [hget, if_neg h1, if_neg h2]; exact hj
        exact List.mem_of_getElem? this
theorem accs_len (l : List Ed) : (accs l).length ≤ l.length := by
  have := asc_len (l.map (·.1))
  rw [List.length_map] at this
  exact this
theorem devs_len (l : List Ed) : (devs l).length ≤ l.length := by
  have := asc_len (l.map (·.2))
  rw [List.length_map] at this
  exact this
theorem cl_bd (l : List Ed) (x : Int) (h : l.length ≤ 1000) : (cAcc l x).length ≤ 1000 ∧ (cDev l x).length ≤ 1000 := by
  have h1 := accs_len l
  have h2 := devs_len l
  unfold cAcc cDev
  constructor
  · split
    · exact Nat.le_trans (List.length_filter_le _ _) (by omega)
    · exact Nat.zero_le _
  · split
    · exact Nat.le_trans (List.length_filter_le _ _) (by omega)
    · exact Nat.zero_le _
theorem cls_bd (l : List Ed) (h : l.length ≤ 1000) : (cls l).length ≤ 1000 ∧ ∀ x ∈ cls l, x.length ≤ 1000 := by
  have h1 := accs_len l
  have h2 := gst_len (fun a => rOf l (false, a)) (accs l)
  unfold cls
  refine ⟨by rw [List.length_map]; omega, fun x hx => ?_⟩
  obtain ⟨e, he, rfl⟩ := List.mem_map.1 hx
  have := h2.2 e he
  omega
theorem swp_len (M : List Ed) (a b : Nat) (x y : Ed) : (swp M a b x y).length = M.length := by simp [swp]
end RW
theorem op_idx_e {ev : Operand → Value} {o : Oper} {x y : Operand} {w : World} {b i n c : Nat} (ho : o.op = .indexAddr 22 x y) (hx : ev x = .slice (some ⟨b, 0, none⟩) n c) (hy : ev y = .int .i64 i) (hi : i < n) : (execOp ev o).run Try.prog w = .ok (.value (.pointer (some ⟨b, i * 2, none⟩))) w := by
  unfold execOp
  rw [ho]
  simp only [hx, hy]
  go_simp
theorem EdsO.at {W : World} {B g n c i : Nat} {L : List RW.Ed} {x : RW.Ed} (h : EdsO W B (.slice (some ⟨g, 0, none⟩) n c) L) (hx : L[i]? = some x) : W.cell? ⟨g, i * 2, none⟩ = some (.int .i64 x.1) ∧ W.cell? ⟨g, i * 2 + 1, none⟩ = some (.int .i64 x.2) ∧ ∀ k, W.frozen? ⟨g, k, none⟩ = false := by
  obtain ⟨cur, hB, _, hg, _⟩ := own_row h (by
    rcases h.2 with ⟨h1, _⟩ | ⟨g', cap, cur, h1, _⟩
    · cases h1
    · cases h1; rfl)
  have hr := h.row
  obtain ⟨a, cc, he, _, hc⟩ := hr
  injection he with e1 e2 e3
  rcases hc with rfl | ⟨b, o, hb, _, hc⟩
  · simp at hx
  · rw [hb] at e1
    cases e1
    refine ⟨?_, ?_, fun k => by simp [World.frozen?, hg]⟩
    · have := hc i x hx 0 _ rfl
      rw [Nat.zero_add] at this
      exact this
    · have := hc i x hx 1 _ rfl
      rw [Nat.zero_add] at this
      exact this
theorem EdsO.set2 {W : World} {B g c i : Nat} {L : List RW.Ed} (h : EdsO W B (.slice (some ⟨g, 0, none⟩) L.length c) L) (hi : i < L.length) (x : RW.Ed) : EdsO ((W.setCell ⟨g, i * 2, none⟩ (.int .i64 x.1)).setCell ⟨g, i * 2 + 1, none⟩ (.int .i64 x.2)) B (.slice (some ⟨g, 0, none⟩) L.length c) (L.set i x) := by
  have := own_set (k := 2) (enc := RW.edl) (e := 38) (fun _ => rfl) (by decide) h i hi x
  rw [EdsO, List.length_set]
  exact this
set_option maxRecDepth 10000 in
set_option maxHeartbeats 2000000 in
theorem graphorder_any (v : Value) (l : List RW.Ed) (hl : ∀ e ∈ l, RW.i64b e.1 ∧ RW.i64b e.2) (vo : Value) (O : List Int) (hOb : ∀ x ∈ O, RW.i64b x) (z : Int) (hz : RW.i64b z) (w : World) (hv : RowV 2 RW.edl w v l) (hvo : RowV 1 encI w vo O) :
    Calls Try.prog 6 #[v, vo, .int .i64 z] w fun e w' => e = .returned (.bool true) ∧ Below w.heap.size w w' := by
  have hS := hide (fun W => sane_any W)
  have hPz := hide (fun W => pick_any z 14 hz.1 hz.2 (by decide) (by decide) W)
  obtain ⟨pz, hpz⟩ : ∃ x, x = RW.pickI z 14 := ⟨_, rfl⟩
  rw [← hpz] at hPz
  have hF1 := hide (fun W (hW : RowV 2 RW.edl W v l) => few_any v l false hl W hW)
  obtain ⟨E, hE⟩ : ∃ E, E = RW.fewL false l := ⟨_, rfl⟩
  have hEl := hide (show E.length ≤ 50 by rw [hE]; exact RW.fewL_len _ _)
  rw [← hE] at hF1
  have hvH := hide hv
  obtain ⟨av, cv, hvf, _, _⟩ := hv
  subst hvf
  obtain ⟨nl, hnl⟩ : ∃ n, n = l.length := ⟨_, rfl⟩
  rw [← hnl] at hF1 hvH ⊢
  obtain ⟨ao, co, rfl, _, hao⟩ := hvo
  obtain ⟨no, hno⟩ : ∃ n, n = O.length := ⟨_, rfl⟩
  have hnoH := hide hno
  rw [← hno]
  have haoH := hide hao
  have hObH := hide hOb
  obtain ⟨B, hB⟩ : ∃ B, B = w.heap.size := ⟨_, rfl⟩
  have hBH := hide hB
  have hsz := hide (fun W (h : Below B w W) => (show B ≤ W.heap.size by rw [hB]; exact hB ▸ h.size))
  clear hz hpz hl hE hnl hno hao hOb hB
  go_enter Try.func6, Try.ntmps6
  go_upto_region 2 with (go_at_call 8; refine (hS.out _).mono ?_; rintro e w2 ⟨rfl, q⟩; have k2 := hide (hvH.out.next q); have k3 := hide (show Below B w w2 from hBH.out ▸ q); clear q)
  go_upto_region 3 with (go_at_call 9; refine (hF1.out _ k2.out).mono ?_; rintro e w3 ⟨ve, rfl, q1, q⟩; have g2 := hide q1; have g3 := hide (k3.out.trans (q.mono (hsz.out _ k3.out))); clear q q1)
  obtain ⟨ae, ce, hve⟩ := g2.out.form
  subst hve
  obtain ⟨ne, hne⟩ : ∃ n, n = E.length := ⟨_, rfl⟩
  have hneH := hide hne
  have gr := hide g2.out.row
  rw [← hne] at gr
  rw [← hne]
  clear hne k2 k3 g2 hF1
  obtain ⟨B3, hB3⟩ : ∃ b, b = w3.heap.size := ⟨_, rfl⟩
  have hB3H := hide hB3
  have hA0 := alloc_bel (Below.refl w3.heap.size w3) (Nat.le_refl _) (.cells #[] 38)
  have hz0 : EdsO (w3.alloc (.cells #[] 38)) B3 (.slice (some ⟨w3.heap.size, 0, none⟩) 0 0) [] := ⟨rfl, .inr ⟨w3.heap.size, 0, #[], rfl, by rw [hB3]; exact Nat.le_refl _, alloc_at1 _ _, Nat.le_refl _, by unfold maxLen; omega, rfl, rfl⟩⟩
  obtain ⟨vm, w4, hrun, ho4, hb4, _⟩ := hz0.appRow (gr.out.next hA0) (by simp) (by have := hEl.out; omega) (by rw [hB3]; exact hA0.size)
  rw [List.nil_append] at ho4
  have hm4 := hide ho4
  have hb4H := hide (show Below B3 w3 w4 from (hB3 ▸ hA0).trans hb4)
  have hn1 := hide (fun W (h : Below B3 w3 W) => gr.out.next (hB3 ▸ h))
  have hn3 := hide (fun W (h : Below B3 w3 W) => (show B3 ≤ W.heap.size by rw [hB3]; exact (hB3 ▸ h).size))
  have hn4 := hide (fun W (h : Below B3 w3 W) => (show Below B w W from g3.out.trans (h.mono (by rw [hB3]; exact hsz.out _ g3.out))))
  clear hA0 hz0 ho4 hb4 gr g3 hB3
  go_upto_region 4 with (at_builtin; refine wpList_app_run rfl (.tmp 20) (.tmp 21) rfl rfl rfl hrun ?_)
  clear hrun
  go_wp2
  go_loopw [9, 10] (fun u i wr => ∃ (j : Nat) (M : List RW.Ed), i = .int .i64 j ∧ j ≤ 60 ∧ Hid (EdsO wr B3 u M ∧ (∀ e, e ∈ M ↔ e ∈ E) ∧ M.length ≤ 50 + j ∧ Below B3 w3 wr)) (fun _ i _ => 60 - (intOf i).toNat)
  case atStart => exact ⟨0, E, rfl, Nat.zero_le _, hm4.out, fun _ => Iff.rfl, hEl.out, hb4H.out⟩
  case round =>
    obtain ⟨j, M, rfl, hj, hQ⟩ := hrel
    clear hm4 hb4H
    obtain ⟨wo, hwo⟩ : ∃ wo, wo = wr := ⟨_, rfl⟩
    subst hwo
    obtain ⟨hM0, hmem0, hlen0, hB0⟩ := hQ.out
    obtain ⟨am, cm, rfl⟩ := hM0.form
    have hM := hide hM0
    have hmem := hide hmem0
    have hlen := hide hlen0
    have hBw := hide hB0
    obtain ⟨nm, hnm⟩ : ∃ n, n = M.length := ⟨_, rfl⟩
    have hnmH := hide hnm
    have hnm110 : nm ≤ 110 := by omega
    rw [← hnm] at hM
    rw [← hnm]
    clear hQ hM0 hmem0 hlen0 hB0 hnm
    obtain ⟨c, hc⟩ : ∃ c : Bool, c = decide (j < no ∧ j < 60 ∧ 0 < nm) := ⟨_, rfl⟩
    have hcH := hide hc
    clear hc
    go_upto_region 5 with fail
    go_cut [35] (fun s wx => s = .bool c ∧ wx = wo)
    case first =>
      by_cases h1 : j < no
      · by_cases h2 : j < 60
        · have h2i : (j : Int) < 60 := by omega
          by_cases h3 : 0 < nm
          · have h3i : (0 : Int) < nm := by omega
            go_wp2
            all_goals go_meet
            all_goals exact ⟨by rw [hcH.out, decide_eq_true (show j < no ∧ j < 60 ∧ 0 < nm from ⟨h1, h2, h3⟩)] <;> rfl, rfl⟩
          · have h3i : ¬ (0 : Int) < nm := by omega
            go_wp2
            all_goals go_meet
            all_goals exact ⟨by rw [hcH.out, decide_eq_false (show ¬ (j < no ∧ j < 60 ∧ 0 < nm) from fun h => h3 h.2.2)] <;> rfl, rfl⟩
        · have h2i : ¬ (j : Int) < 60 := by omega
          go_wp2
          all_goals go_meet
          all_goals exact ⟨by rw [hcH.out, decide_eq_false (show ¬ (j < no ∧ j < 60 ∧ 0 < nm) from fun h => h2 h.2.1)] <;> rfl, rfl⟩
      · go_wp2
        all_goals go_meet
        all_goals exact ⟨by rw [hcH.out, decide_eq_false (show ¬ (j < no ∧ j < 60 ∧ 0 < nm) from fun h => h1 h.1)] <;> rfl, rfl⟩
    case rest =>
    obtain ⟨rfl, hwx⟩ := hcut
    have hwx' := hwx.symm
    subst hwx'
    cases c
    · clear hcH
      have hMr := hM.out
      rw [hnmH.out] at hMr
      have r2 := hide hMr.row
      rw [← hnmH.out] at r2
      have r1 := hide (hn1.out wo hBw.out)
      have hb := hide (hn4.out wo hBw.out)
      have hE1 : E.length ≤ 1000 := by have := hEl.out; omega
      have hM1 : M.length ≤ 1000 := by rw [← hnmH.out]; omega
      have hCe := hide (fun W (h : RowV 2 RW.edl W (.slice ae ne ce) E) => cluster_any _ E pz hE1 W h)
      have hCm := hide (fun W (h : RowV 2 RW.edl W (.slice am nm cm) M) => cluster_any _ M pz hM1 W h)
      have hKe := hide (fun W (h : RowV 2 RW.edl W (.slice ae ne ce) E) => clusters_any _ E hE1 W h)
      have hKm := hide (fun W (h : RowV 2 RW.edl W (.slice am nm cm) M) => clusters_any _ M hM1 W h)
      rw [RW.cAcc_same (fun e => hmem.out e) pz, RW.cDev_same (fun e => hmem.out e) pz] at hCm
      rw [RW.cls_same (fun e => hmem.out e)] at hKm
      have hbd := hide (RW.cl_bd E pz hE1)
      have hbd2 := hide (RW.cls_bd E hE1)
      obtain ⟨X, hX⟩ : ∃ X, X = RW.cAcc E pz := ⟨_, rfl⟩
      obtain ⟨Y, hY⟩ : ∃ X, X = RW.cDev E pz := ⟨_, rfl⟩
      obtain ⟨Z, hZ⟩ : ∃ X, X = RW.cls E := ⟨_, rfl⟩
      rw [← hX, ← hY] at hCe hCm hbd
      rw [← hZ] at hKe hKm hbd2
      have hsm := hide (fun (L : List Int) (hL : L.length ≤ 1000000) W u u' (h : RowV 1 encI W u L) (h' : RowV 1 encI W u' L) => (show Calls Try.prog 13 #[u, u'] W fun e w' => e = .returned (.bool true) ∧ Below W.heap.size W w' by
        have := same_any u u' L L hL W h h'
        rw [decide_eq_true (rfl : L = L)] at this
        exact this))
      have hsl := hide (fun W u u' (h : LL W u Z) (h' : LL W u' Z) => (show Calls Try.prog 16 #[u, u'] W fun e w' => e = .returned (.bool true) ∧ Below W.heap.size W w' by
        have := samelists_any u u' Z Z (by have := hbd2.out.1; omega) (fun x hx => by have := hbd2.out.2 x hx; omega) W h h'
        rw [decide_eq_true (rfl : Z = Z)] at this
        exact this))
      clear hX hY hZ hMr hM hBw hE1 hM1 hn1 hn3 hn4
      go_upto_region 13 with (first
        | (go_at_call 10; refine (hPz.out _).mono ?_; rintro e w' ⟨rfl, rfl⟩)
        | (go_at_call 11; refine (hCe.out _ r1.out).mono ?_; rintro e w5 ⟨u1, u2, rfl, q1, q2, q⟩; have a1 := hide q1; have a2 := hide q2; have s1 := hide (r1.out.next q); have s2 := hide (r2.out.next q); have sb := hide (hb.out.trans (q.mono (hsz.out _ hb.out))); clear q q1 q2))
      clear r1 r2 hb
      go_upto_region 14 with (first
        | (go_at_call 10; refine (hPz.out _).mono ?_; rintro e w' ⟨rfl, rfl⟩)
        | (go_at_call 11; refine (hCm.out _ s2.out).mono ?_; rintro e w6 ⟨u3, u4, rfl, q1, q2, q⟩; have a3 := hide q1; have a4 := hide q2; have b1 := hide (a1.out.next q); have b2 := hide (a2.out.next q); have t1 := hide (s1.out.next q); have t2 := hide (s2.out.next q); have tb := hide (sb.out.trans (q.mono (hsz.out _ sb.out))); clear q q1 q2))
      clear a1 a2 s1 s2 sb hCe hCm hPz
      have tok1 : True := trivial
      have tok2 : True := trivial
      go_wp2_with (first
        | (go_at_call 17; have _t := tok1; refine (hKe.out _ t1.out).mono ?_; rintro e w7 ⟨u5, rfl, q1, q⟩; have l1 := hide q1; have c1 := hide (b1.out.next q); have c2 := hide (b2.out.next q); have c3 := hide (a3.out.next q); have c4 := hide (a4.out.next q); have v2 := hide (t2.out.next q); have vb := hide (tb.out.trans (q.mono (hsz.out _ tb.out))); clear q q1 tok1)
        | (go_at_call 17; refine (hKm.out _ v2.out).mono ?_; rintro e w8 ⟨u6, rfl, q1, q⟩; have l3 := hide q1; have l2 := hide (l1.out.next q); have d1 := hide (c1.out.next q); have d2 := hide (c2.out.next q); have d3 := hide (c3.out.next q); have d4 := hide (c4.out.next q); have xb := hide (vb.out.trans (q.mono (hsz.out _ vb.out))); clear q q1)
        | (go_at_call 16; refine (hsl.out _ _ _ l2.out l3.out).mono ?_; rintro e w9 ⟨rfl, q⟩; have f1 := hide (d1.out.next q); have f2 := hide (d2.out.next q); have f3 := hide (d3.out.next q); have f4 := hide (d4.out.next q); have yb := hide (xb.out.trans (q.mono (hsz.out _ xb.out))); clear q)
        | (go_at_call 13; have _t := tok2; refine (hsm.out X (by have := hbd.out.1; omega) _ _ _ f1.out f3.out).mono ?_; rintro e w10 ⟨rfl, q⟩; have g2 := hide (f2.out.next q); have g4 := hide (f4.out.next q); have zb := hide (yb.out.trans (q.mono (hsz.out _ yb.out))); clear q tok2)
        | (go_at_call 13; refine (hsm.out Y (by have := hbd.out.2; omega) _ _ _ g2.out g4.out).mono ?_; rintro e w11 ⟨rfl, q⟩; have fb := hide (zb.out.trans (q.mono (hsz.out _ zb.out))); clear q))
      go_ret
      exact ⟨rfl, hBH.out ▸ fb.out⟩
    · obtain ⟨hlt, hj60, hpos⟩ : j < no ∧ j < 60 ∧ 0 < nm := of_decide_eq_true hcH.out.symm
      clear hcH
      obtain ⟨oj, hx⟩ : ∃ x, O[j]? = some x := ⟨_, List.getElem?_eq_getElem (by rw [← hnoH.out]; exact hlt)⟩
      have hxb := hObH.out _ (List.mem_of_getElem? hx)
      obtain ⟨bq, oq, rfl, hbq, hcq⟩ := haoH.out.resolve_left (by rintro rfl; simp at hx)
      have hoc := hide (fun W (h : Below B w W) => ((World.cell?_of_block (a := ⟨bq, oq + j, none⟩) (h.block _ (by rw [hBH.out]; exact hbq))).trans (ints_cell hcq hx) : W.cell? ⟨bq, oq + j, none⟩ = some (.int .i64 oj)))
      have hPa := hide (fun W => pick_any oj nm hxb.1 hxb.2 (by omega) (by omega) W)
      have hq1 : -9223372036854775808 ≤ oj.tdiv 5 := by rcases Int.le_total 0 oj with h | h; (have := Int.tdiv_nonneg h (show (0:Int) ≤ 5 by decide); omega); (have h2 := hxb.1; have h3 := Int.neg_tdiv oj 5; have h4 : (-oj).tdiv 5 ≤ -oj := Int.tdiv_le_self _ (by omega); omega)
      have hq2 : oj.tdiv 5 ≤ 9223372036854775807 := by rcases Int.le_total 0 oj with h | h; (have h4 : oj.tdiv 5 ≤ oj := Int.tdiv_le_self _ h; have := hxb.2; omega); (have h3 := Int.neg_tdiv oj 5; have h4 : 0 ≤ (-oj).tdiv 5 := Int.tdiv_nonneg (by omega) (by decide); omega)
      have hPb := hide (fun W => pick_any (oj.tdiv 5) nm hq1 hq2 (by omega) (by omega) W)
      have hwr := hide (show wrap64 (oj.tdiv 5) = oj.tdiv 5 from by unfold wrap64; omega)
      have hPc := hide (fun W => pick_any oj 4 hxb.1 hxb.2 (by decide) (by decide) W)
      have ba := RW.pickI_bd oj nm (by omega)
      have bb := RW.pickI_bd (oj.tdiv 5) nm (by omega)
      obtain ⟨a, ha⟩ : ∃ a : Nat, (a : Int) = RW.pickI oj nm := ⟨(RW.pickI oj nm).toNat, by omega⟩
      obtain ⟨b, hb⟩ : ∃ a : Nat, (a : Int) = RW.pickI (oj.tdiv 5) nm := ⟨(RW.pickI (oj.tdiv 5) nm).toNat, by omega⟩
      obtain ⟨pc, hpc⟩ : ∃ p, p = RW.pickI oj 4 := ⟨_, rfl⟩
      rw [← ha] at hPa
      rw [← hb] at hPb
      rw [← hpc] at hPc
      have hal : a < nm := by omega
      have hbl : b < nm := by omega
      obtain ⟨⟨xa, xd⟩, hxa⟩ : ∃ x, M[a]? = some x := ⟨_, List.getElem?_eq_getElem (by rw [← hnmH.out]; exact hal)⟩
      obtain ⟨⟨ya, yd⟩, hyb⟩ : ∃ x, M[b]? = some x := ⟨_, List.getElem?_eq_getElem (by rw [← hnmH.out]; exact hbl)⟩
      have hxaH := hide hxa
      have hybH := hide hyb
      have halH := hide hal
      have hblH := hide hbl
      have hM5 := hM.out
      rw [hnmH.out] at hM5
      obtain ⟨gm, om, cm', hvm, _, _, _⟩ := hM5.row.at (fun e => by rw [e] at hxa; simp at hxa)
      have hom : om = 0 := by
        rcases hM5.2 with ⟨h1, _⟩ | ⟨g', cap, cur, h1, _⟩
        · rw [h1] at hvm; cases hvm
        · rw [h1] at hvm; cases hvm; rfl
      subst hom
      injection hvm with q1 q2 q3
      subst q1
      clear q2 q3 hM5
      have k1 : wo.cell? ⟨bq, oq + j, none⟩ = some (.int .i64 oj) := hoc.out wo (hn4.out wo hBw.out)
      clear hx hxb hbq hcq hq1 hq2 ba bb ha hb hpc hxa hyb hal hbl
      go_upto_region 8 with (go_at_call 10; refine (hPa.out _).mono ?_; rintro e w' ⟨rfl, rfl⟩)
      go_upto_region 9 with (go_at_call 10; rw [hwr.out]; refine (hPb.out _).mono ?_; rintro e w' ⟨rfl, rfl⟩)
      refine wp_region_k (fun g W => Below B3 w3 W ∧ (13 ∉ g → EdsO W B3 (.slice (some ⟨gm, 0, none⟩) nm cm) M)) (fun W => EdsO W B3 (.slice (some ⟨gm, 0, none⟩) nm cm) M ∧ Below B3 w3 W) [13, 15] (.op 0 (.op 1 (.op 2 (.op 3 (.op 4 (.op 5 (.op 6 (.op 7 (.op 8 (.op 9 (.op 10 (.op 11 (.op 12 (.op 13 (.op 14 (.op 15 .nil)))))))))))))))) (by kernel_rfl) (by kernel_rfl) (by rfl) (by kernel_rfl) ⟨hBw.out.trans (Below.refl _ _).drew, fun _ => hM.out.next (Below.refl _ _).drew⟩ ⟨hM.out.next (Below.refl _ _).drew, hBw.out.trans (Below.refl _ _).drew⟩ ?_
      refine k_val (.slice (some ⟨gm, 0, none⟩) nm cm) (by apply opN; repeat' (first | apply OpAt.z | apply OpAt.s)) (by rfl) (by rfl) (fun _ W hS => op_mv rfl rfl) ?_
      simp only [Act.put, List.setIfInBounds_toArray, List.set_cons_zero, List.set_cons_succ]
      refine k_val (.int .i64 (a : Int)) (by apply opN; repeat' (first | apply OpAt.z | apply OpAt.s)) (by rfl) (by rfl) (fun _ W hS => op_mv rfl rfl) ?_
      simp only [Act.put, List.setIfInBounds_toArray, List.set_cons_zero, List.set_cons_succ]
      refine k_val (.slice (some ⟨gm, 0, none⟩) nm cm) (by apply opN; repeat' (first | apply OpAt.z | apply OpAt.s)) (by rfl) (by rfl) (fun _ W hS => op_mv rfl rfl) ?_
      simp only [Act.put, List.setIfInBounds_toArray, List.set_cons_zero, List.set_cons_succ]
      refine k_val (.int .i64 (b : Int)) (by apply opN; repeat' (first | apply OpAt.z | apply OpAt.s)) (by rfl) (by rfl) (fun _ W hS => op_mv rfl rfl) ?_
      simp only [Act.put, List.setIfInBounds_toArray, List.set_cons_zero, List.set_cons_succ]
      refine k_val (.slice (some ⟨gm, 0, none⟩) nm cm) (by apply opN; repeat' (first | apply OpAt.z | apply OpAt.s)) (by rfl) (by rfl) (fun _ W hS => op_mv rfl rfl) ?_
      simp only [Act.put, List.setIfInBounds_toArray, List.set_cons_zero, List.set_cons_succ]
      refine k_val (.int .i64 (b : Int)) (by apply opN; repeat' (first | apply OpAt.z | apply OpAt.s)) (by rfl) (by rfl) (fun _ W hS => op_mv rfl rfl) ?_
      simp only [Act.put, List.setIfInBounds_toArray, List.set_cons_zero, List.set_cons_succ]
      refine k_val (.pointer (some ⟨gm, b * 2, none⟩)) (by apply opN; repeat' (first | apply OpAt.z | apply OpAt.s)) (by rfl) (by rfl) (fun _ W hS => op_idx_e rfl rfl rfl hblH.out) ?_
      simp only [Act.put, List.setIfInBounds_toArray, List.set_cons_zero, List.set_cons_succ]
      refine k_bef 13 (.agg #[.int .i64 ya, .int .i64 yd]) (by apply opN; repeat' (first | apply OpAt.z | apply OpAt.s)) (by rfl) (by rfl) (by decide +kernel) (by rfl) (fun _ W hg hS => op_load_ed rfl rfl ((hS.2 hg).at hybH.out).1 ((hS.2 hg).at hybH.out).2.1) ?_
      simp only [Act.put, List.setIfInBounds_toArray, List.set_cons_zero, List.set_cons_succ]
      refine k_val (.slice (some ⟨gm, 0, none⟩) nm cm) (by apply opN; repeat' (first | apply OpAt.z | apply OpAt.s)) (by rfl) (by rfl) (fun _ W hS => op_mv rfl rfl) ?_
      simp only [Act.put, List.setIfInBounds_toArray, List.set_cons_zero, List.set_cons_succ]
      refine k_val (.int .i64 (a : Int)) (by apply opN; repeat' (first | apply OpAt.z | apply OpAt.s)) (by rfl) (by rfl) (fun _ W hS => op_mv rfl rfl) ?_
      simp only [Act.put, List.setIfInBounds_toArray, List.set_cons_zero, List.set_cons_succ]
      refine k_val (.pointer (some ⟨gm, a * 2, none⟩)) (by apply opN; repeat' (first | apply OpAt.z | apply OpAt.s)) (by rfl) (by rfl) (fun _ W hS => op_idx_e rfl rfl rfl halH.out) ?_
      simp only [Act.put, List.setIfInBounds_toArray, List.set_cons_zero, List.set_cons_succ]
      refine k_bef 13 (.agg #[.int .i64 xa, .int .i64 xd]) (by apply opN; repeat' (first | apply OpAt.z | apply OpAt.s)) (by rfl) (by rfl) (by decide +kernel) (by rfl) (fun _ W hg hS => op_load_ed rfl rfl ((hS.2 hg).at hxaH.out).1 ((hS.2 hg).at hxaH.out).2.1) ?_
      simp only [Act.put, List.setIfInBounds_toArray, List.set_cons_zero, List.set_cons_succ]
      refine k_val (.pointer (some ⟨gm, a * 2, none⟩)) (by apply opN; repeat' (first | apply OpAt.z | apply OpAt.s)) (by rfl) (by rfl) (fun _ W hS => op_idx_e rfl rfl rfl halH.out) ?_
      simp only [Act.put, List.setIfInBounds_toArray, List.set_cons_zero, List.set_cons_succ]
      refine k_step (fun K' u => K' = fun W => EdsO W B3 (.slice (some ⟨gm, 0, none⟩) nm cm) (M.set a (ya, yd)) ∧ Below B3 w3 W) (by apply opN; repeat' (first | apply OpAt.z | apply OpAt.s)) (by rfl) (by rfl) (by rfl) (fun W hC hK => ?_) ?_
      · have hat := hK.1.at (hxaH.out)
        have hge := (own_block hK.1 rfl).1
        have hM1 := hK.1
        have hlM : nm = (M).length := hnmH.out
        have hst := EdsO.set2 (i := a) (L := M) (c := cm) (g := gm) (B := B3) (W := W) (by rw [← hlM]; exact hM1) (by rw [← hlM]; exact halH.out) (ya, yd)
        rw [← hlM] at hst
        have hb2 := below_set (i := a * 2 + 1) (below_set (i := a * 2) hK.2 hge (.int .i64 ya)) hge (.int .i64 yd)
        exact xup_skip (op_store_e rfl rfl rfl hat.1 hat.2.1 (hat.2.2 _) (hat.2.2 _)) ⟨⟨hb2, fun h => absurd (by decide) h⟩, _, ⟨hst, hb2⟩, rfl⟩
      rintro _ _ rfl
      simp only [Act.put]
      refine k_val (.pointer (some ⟨gm, b * 2, none⟩)) (by apply opN; repeat' (first | apply OpAt.z | apply OpAt.s)) (by rfl) (by rfl) (fun _ W hS => op_idx_e rfl rfl rfl hblH.out) ?_
      simp only [Act.put, List.setIfInBounds_toArray, List.set_cons_zero, List.set_cons_succ]
      refine k_step (fun K' u => K' = fun W => EdsO W B3 (.slice (some ⟨gm, 0, none⟩) nm cm) (RW.swp M a b (xa, xd) (ya, yd)) ∧ Below B3 w3 W) (by apply opN; repeat' (first | apply OpAt.z | apply OpAt.s)) (by rfl) (by rfl) (by rfl) (fun W hC hK => ?_) ?_
      · have hat := hK.1.at (List.getElem?_eq_getElem (by rw [List.length_set, ← hnmH.out]; exact hblH.out))
        have hge := (own_block hK.1 rfl).1
        have hM1 := hK.1
        have hlM : nm = (M.set a (ya, yd)).length := by rw [List.length_set]; exact hnmH.out
        have hst := EdsO.set2 (i := b) (L := M.set a (ya, yd)) (c := cm) (g := gm) (B := B3) (W := W) (by rw [← hlM]; exact hM1) (by rw [← hlM]; exact hblH.out) (xa, xd)
        rw [← hlM] at hst
        have hb2 := below_set (i := b * 2 + 1) (below_set (i := b * 2) hK.2 hge (.int .i64 xa)) hge (.int .i64 xd)
        exact xup_skip (op_store_e rfl rfl rfl hat.1 hat.2.1 (hat.2.2 _) (hat.2.2 _)) ⟨⟨hb2, fun h => absurd (by decide) h⟩, _, ⟨hst, hb2⟩, rfl⟩
      rintro _ _ rfl
      simp only [Act.put]
      refine k_nil ?_
      intro w9 hC hK
      obtain ⟨M2, hM2e⟩ : ∃ M2, M2 = RW.swp M a b (xa, xd) (ya, yd) := ⟨_, rfl⟩
      rw [← hM2e] at hK
      have hM9 := hide hK.1
      have hB9 := hide hK.2
      have hmem9 := hide (fun e => (show e ∈ M2 ↔ e ∈ E by rw [hM2e]; exact (RW.mem_swp hxaH.out hybH.out e).trans (hmem.out e)))
      have hlen9 := hide (show nm = M2.length by rw [hM2e, RW.swp_len]; exact hnmH.out)
      clear hC hK hM2e hM hBw k1
      obtain ⟨⟨ra, rd⟩, hra⟩ : ∃ x, M2[a]? = some x := ⟨_, List.getElem?_eq_getElem (by rw [← hlen9.out]; exact halH.out)⟩
      have hraH := hide hra
      clear hra
      have k1 : w9.cell? ⟨bq, oq + j, none⟩ = some (.int .i64 oj) := hoc.out w9 (hn4.out w9 hB9.out)
      by_cases h0 : pc = 0
      · have k2 : w9.cell? ⟨gm, a * 2, none⟩ = some (.int .i64 ra) := (hM9.out.at hraH.out).1
        have k3 : w9.cell? ⟨gm, a * 2 + 1, none⟩ = some (.int .i64 rd) := (hM9.out.at hraH.out).2.1
        have hM9' := hM9.out
        rw [hlen9.out] at hM9'
        obtain ⟨v8, w8, hrun, hO8, hB8⟩ := EdsO.appNew (v := .slice (some ⟨gm, 0, none⟩) M2.length cm) hM9' (ra, rd) (by rw [← hlen9.out]; omega) (hn3.out w9 hB9.out)
        rw [← hlen9.out] at hrun
        have hO8H := hide hO8
        have hB8H := hide (hB9.out.trans hB8)
        have hal := halH.out
        clear hO8 hB8 hM9'
        go_wp2_with (first
          | (go_at_call 10; refine (hPc.out _).mono ?_; rintro e w' ⟨rfl, rfl⟩)
          | (at_builtin; refine wpList_app_run rfl (.tmp 73) (.tmp 78) rfl rfl rfl hrun ?_))
        go_roundw
        case rel => exact ⟨j + 1, M2 ++ [(ra, rd)], by go_num, by omega, hO8H.out, fun e => by rw [List.mem_append, List.mem_singleton, hmem9.out e]; exact ⟨fun h => h.elim id fun h => by rw [h]; exact (hmem9.out _).1 (List.mem_of_getElem? hraH.out), .inl⟩, by rw [List.length_append, ← hlen9.out]; have := hlen.out; have := hnmH.out; simp; omega, hB8H.out⟩
        case measure => simp [intOf]; omega
      · go_wp2_with (go_at_call 10; refine (hPc.out _).mono ?_; rintro e w' ⟨rfl, rfl⟩)
        go_roundw
        case rel => exact ⟨j + 1, M2, by go_num, by omega, by rw [EdsO, ← hlen9.out]; exact hlen9.out ▸ hM9.out, hmem9.out, by rw [← hlen9.out]; have := hlen.out; have := hnmH.out; omega, hB9.out⟩
        case measure => simp [intOf]; omega
end Go.Proofs.Ytbmlfejlmedmgaa

/-
  Package royaltylaw19: StatementRoundTrip: it returns true; only new memory is written.
-/
import Derived.Test.YtillplhadimgmaaSt32
namespace Go.Proofs.Ytillplhadimgmaa
open Go.RowKit RG
theorem cf_make : ∀ args w, (callFunc 10 args).run Try.prog w = .ok (.enter 10 args) w := fun args w => by go_simp
theorem op_bs_st {ev : Operand → Value} {o : Oper} {x : Operand} {w : World} {a b : Int} {v : Value} (ho : o.op = .buildSlice 44 1 #[(0, x)]) (hx : ev x = .agg #[.int .i64 a, .int .i64 b, v]) : (execOp ev o).run Try.prog w = .ok (.value (.slice (some ⟨w.heap.size, 0, none⟩) 1 1)) (w.alloc (.cells #[.int .i64 a, .int .i64 b, v] 39)) := by
  unfold execOp
  rw [ho]
  go_simp
theorem StsV.got {W : World} {v : Value} {ss : List RW.St} (h : StsV W v ss) : ∃ a c, v = .slice a ss.length c ∧ ∀ (k : Nat) (s : RW.St), ss[k]? = some s → ∃ (b o : Nat) (x : Value), a = some ⟨b, o, none⟩ ∧ b < W.heap.size ∧ W.rangeAt b (o + k * 3) (stc (s.1, s.2.1, x)) ∧ LnsV W x s.2.2 := by
  obtain ⟨vs, ⟨a, c, rfl, _, hr⟩, hl, he⟩ := h
  refine ⟨a, c, by rw [hl], fun j l hj => ?_⟩
  have hjl := (List.getElem?_eq_some_iff.1 hj).1
  obtain ⟨u, hu⟩ : ∃ u, vs[j]? = some u := ⟨_, List.getElem?_eq_getElem (by rw [hl]; exact hjl)⟩
  rcases hr with rfl | ⟨b, o, rfl, hb, hc⟩
  · cases hu
  · obtain ⟨e1, e2, e3⟩ := he j u l hu hj
    refine ⟨b, o, u.2.2, rfl, hb, ?_, e3⟩
    rw [← e1, ← e2]
    exact hc j u hu
/-- a decoded statement in block g, its lines; nothing older has turned -/
structure Rt4 (W wo : World) (g : Nat) (t1 t2 : Int) (v : Value) (tl : List RW.Ln) : Prop where
  g : W.heap[g]? = some (.cells #[.int .i64 t1, .int .i64 t2, v] 39 (0, 0))
  l : LnsV W v tl
  bel : Below wo.heap.size wo W
theorem Rt4.next {W W' wo : World} {g : Nat} {t1 t2 : Int} {v : Value} {tl : List RW.Ln} (h : Rt4 W wo g t1 t2 v tl) (hB : Below W.heap.size W W') : Rt4 W' wo g t1 t2 v tl :=
  ⟨(hB.block _ (Array.getElem?_eq_some_iff.1 h.g).1).trans h.g, h.l.next hB, h.bel.trans (hB.mono h.bel.size)⟩
namespace RW
theorem encS_pos {s : St} (h : valB s = true) : 1 ≤ (encS s).length := by
  have h1 := decT_enc h []
  rcases hc : encS s with _ | ⟨a, l⟩
  · rw [hc, if_neg (by simp)] at h1
    exact absurd h1 (by intro e; cases e)
  · simp
theorem encS_len {s : St} (h : valB s = true) : (encS s).length ≤ 40000 := by
  have h1 := (valB_facts h).2.2
  have h2 := encL_len (stN s)
  unfold encS
  unfold stN at h2 ⊢
  rw [List.length_cons, List.length_cons, List.length_cons, flatZ_len] at h2
  omega
theorem arr_of {s : ByteArray} {l : List UInt8} (h : s.data.toList = l) : (⟨l.toArray⟩ : ByteArray) = s := by
  subst h
  cases s
  simp
theorem emp_iff (s : ByteArray) : s.toList.isEmpty = decide (s.size = 0) := by
  rw [ByteArray.toList_eq]
  cases s with
  | mk d => cases d with
    | mk l => cases l with
      | nil => rfl
      | cons a l => rfl
end RW
section
variable {ev : Operand → Value} {o : Oper} {x y : Operand} {w : World}
theorem op_emp {a : ByteArray} (ho : o.op = .binOp .eql 9 x y 9) (hx : ev x = .string a) (hy : ev y = .string ⟨#[]⟩) : (execOp ev o).run Try.prog w = .ok (.value (.bool a.toList.isEmpty)) w := by
  unfold execOp
  rw [ho]
  simp only [hx, hy]
  go_simp
theorem op_eqE {a b : Int} (ho : o.op = .binOp .eql 47 x y 47) (hx : ev x = .int .i64 a) (hy : ev y = .int .i64 b) : (execOp ev o).run Try.prog w = .ok (.value (.bool (decide (a = b)))) w := by
  unfold execOp
  rw [ho]
  simp only [hx, hy]
  go_simp
  by_cases h : a = b <;> simp [h]
theorem op_neE {a : Int} (ho : o.op = .binOp .neq 47 x y 47) (hx : ev x = .int .i64 a) (hy : ev y = .int .i64 a) : (execOp ev o).run Try.prog w = .ok (.value (.bool false)) w := by
  unfold execOp
  rw [ho]
  simp only [hx, hy]
  go_simp
theorem op_neb {p : Bool} (ho : o.op = .binOp .neq 4 x y 4) (hx : ev x = .bool p) (hy : ev y = .bool p) : (execOp ev o).run Try.prog w = .ok (.value (.bool false)) w := by
  unfold execOp
  rw [ho]
  simp only [hx, hy]
  go_simp
end
set_option maxRecDepth 10000 in
set_option maxHeartbeats 8000000 in
theorem rt_any (sh sc : Int) (sv : Value) (sl : List RW.Ln) (s : ByteArray) (hs : s.size ≤ 9223372036854775807) (vx vy : Value) (xs ys : List RW.Ln) (hx : xs.length ≤ 9223372036854775807) (hy : ys.length ≤ 9223372036854775807) (hxb : ∀ x ∈ xs, RW.i64t x) (hyb : ∀ x ∈ ys, RW.i64t x) (n : Int) (hn0 : -9223372036854775808 ≤ n) (hn1 : n ≤ 9223372036854775807) (more : ByteArray) (hmo : more.size ≤ 9223372036854775807) (w : World) (hsv : LnsV w sv sl) (hsl : sl.length ≤ 9223372036854775807) (hvx : LnsV w vx xs) (hvy : LnsV w vy ys) :
    Calls Try.prog 7 #[.agg #[.int .i64 sh, .int .i64 sc, sv], .string s, vx, vy, .int .i64 n, .string more] w fun e w' => e = .returned (.bool true) ∧ Below w.heap.size w w' := by
  obtain ⟨B, hB⟩ : ∃ B, B = w.heap.size := ⟨_, rfl⟩
  have hBH := hide hB
  have hsvH := hide hsv
  obtain ⟨sa, scp, rfl, hcap, _⟩ := hsv
  obtain ⟨sn, hsn⟩ : ∃ k, k = sl.length := ⟨_, rfl⟩
  have hsnH := hide hsn
  have hMx := hide (fun W (hW : Below B w W) => make_any vx xs hx hxb 2 (by decide) (by decide) W (hvx.next (hB ▸ hW)))
  have hMy := hide (fun W (hW : Below B w W) => make_any vy ys hy hyb 5 (by decide) (by decide) W (hvy.next (hB ▸ hW)))
  have hsvW := hide (fun W (hW : Below B w W) => (show LnsV W (.slice sa sl.length scp) sl from hsvH.out.next (hB ▸ hW)))
  obtain ⟨z1, hz1⟩ : ∃ z, z = RW.pickI 2 8 := ⟨_, rfl⟩
  have hz2 := hide (show RW.pickI 5 8 = 5 by decide)
  rw [← hz1] at hMx
  rw [hz2.out] at hMy
  obtain ⟨A, hA⟩ : ∃ l, l = RW.mkA xs := ⟨_, rfl⟩
  obtain ⟨E, hE⟩ : ∃ l, l = RW.mkA ys := ⟨_, rfl⟩
  have hAk := hide (show RW.Mk A by rw [hA]; exact RW.mkA_mk xs)
  have hEk := hide (show RW.Mk E by rw [hE]; exact RW.mkA_mk ys)
  rw [← hA] at hMx
  rw [← hE] at hMy
  clear hA hE hz1 hz2 hvx hvy hxb hyb hx hy
  rw [← hsn] at hsl hcap hsvH hsvW ⊢
  rw [← hB]
  clear hsn hB
  go_enter Try.func7, Try.ntmps7
  go_upto_region 2 with (go_at_call 8; refine (sane_any _).mono ?_; rintro e w1 ⟨rfl, hB1⟩; have hB1H := hide hB1; clear hB1)
  have hg1 := hide (show w1.heap[w.heap.size]? = some (.cells #[.int .i64 sh, .int .i64 sc, .slice sa sn scp] 39 (0, 0)) from (hB1H.out.block _ (by rw [alloc_size]; exact Nat.lt_succ_self _)).trans (alloc_at1 _ _))
  have e2 : w1.cell? ⟨w.heap.size, 2, none⟩ = some (.slice sa sn scp) := cellAt hg1.out 2
  have f2 : w1.frozen? ⟨w.heap.size, 2, none⟩ = false := by simp [World.frozen?, hg1.out]
  rw [← hBH.out] at hg1 e2 f2 ⊢
  have hV1 := hide (show LnsV w1 (.slice sa sn scp) sl from hsvH.out.next ((alloc_bel (Below.refl w.heap.size w) (Nat.le_refl _) _).trans (hB1H.out.mono (by rw [alloc_size]; exact Nat.le_succ _))))
  have hlt1 := hide (show B < w1.heap.size from (Array.getElem?_eq_some_iff.1 hg1.out).1)
  have hBl1 := hide (show Below B w w1 from (alloc_bel (Below.refl B w) (Nat.le_of_eq hBH.out) _).trans (hB1H.out.mono (by rw [alloc_size, hBH.out]; exact Nat.le_succ _)))
  obtain ⟨q, hq⟩ : ∃ q, q = (min (sn : Int) 1210).toNat := ⟨_, rfl⟩
  have hq1 := hide (show q ≤ 1210 ∧ q ≤ sn by omega)
  have hqH := hide hq
  have hf := hide (show (w1.setCell ⟨B, 2, none⟩ (.slice sa q scp)).heap[B]? = some (.cells #[.int .i64 sh, .int .i64 sc, .slice sa q scp] 39 (0, 0)) ∧ Below B w (w1.setCell ⟨B, 2, none⟩ (.slice sa q scp)) from ⟨(heap_setCell_same _ _ _ _ _ _ hg1.out).trans rfl, hBl1.out.setCell (p := ⟨B, 2, none⟩) (Nat.le_refl _) _⟩)
  clear hq
  go_cut [12] (fun t wx => t = .bool false ∧ wx.heap[B]? = some (.cells #[.int .i64 sh, .int .i64 sc, .slice sa q scp] 39 (0, 0)) ∧ Below B w wx)
  case first =>
    go_wp2
    all_goals go_meet
    all_goals rw [← hqH.out]
    all_goals exact ⟨rfl, hf.out⟩
  case rest =>
  obtain ⟨rfl, hg2', hB2'⟩ := hcut
  obtain ⟨w2, hw2⟩ : ∃ x, x = wc := ⟨_, rfl⟩
  subst hw2
  have hg2 := hide hg2'
  have hB2w := hide hB2'
  clear hg2' hB2' hg1 hf e2 f2 hV1 hlt1 hBl1 hB1H hqH
  obtain ⟨S, hS⟩ : ∃ S, S = RW.stAll A E 5 := ⟨_, rfl⟩
  obtain ⟨lc, hlc⟩ : ∃ l, l = sl.take q := ⟨_, rfl⟩
  have hlcV := hide (fun W (hW : Below B w W) => (show LnsV W (.slice sa q scp) lc from by rw [hlc]; exact LnsV.cut (hsvW.out W hW) q hq1.out.2))
  have hSl := hide (show S.length ≤ 100 by
    rw [hS]
    have h1 := List.length_filter_le (fun s : RW.St => decide (0 < s.2.2.length)) ((RW.hols (A ++ E)).map (RW.stOf A E 5))
    have h2 := RW.hols_len (A ++ E)
    rw [List.length_map] at h1
    rw [List.length_append] at h2
    have h3 := hAk.out.2
    have h4 := hEk.out.2
    unfold RW.stAll
    omega)
  have hSH := hide hS
  have hlcH := hide hlc
  clear hS hlc
  obtain ⟨B2, hB2⟩ : ∃ b, b = w2.heap.size := ⟨_, rfl⟩
  have hlt2 := hide (show B < B2 by rw [hB2]; exact (Array.getElem?_eq_some_iff.1 hg2.out).1)
  have hsz2 := hide (fun W (hW : Below B2 w2 W) => (show B2 ≤ W.heap.size by rw [hB2]; exact (hB2 ▸ hW).size))
  have hBw := hide (fun W (hW : Below B2 w2 W) => (show Below B w W from hB2w.out.trans (hW.mono (Nat.le_of_lt hlt2.out))))
  have hgW := hide (fun W (hW : Below B2 w2 W) => (hW.block B hlt2.out).trans hg2.out)
  have hb2 := hide (Nat.le_of_eq hB2)
  go_upto_region 3 with fail
  go_cut [14] (fun t wx => StsV wx t (S ++ [(sh, sc, lc)]) ∧ Below B w wx)
  case first =>
    refine wp_region_k (fun _ W => Below B2 w2 W) (fun _ => True) [1, 3, 4, 6, 7] (.op 0 (.op 2 (.op 5 (.fork 1 (.fork 3 (.fork 4 (.op 6 (.op 7 (.op 8 .nil))) 6 (.op 4 (.op 7 (.op 8 .nil)))) 6 (.op 3 (.op 4 (.op 7 (.op 8 .nil))))) 6 (.op 1 (.op 3 (.op 4 (.op 7 (.op 8 .nil))))))))) (by kernel_rfl) (by kernel_rfl) (by rfl) (by kernel_rfl) (by rw [hB2]; exact (Below.refl w2.heap.size w2).drew) trivial ?_
    refine k_val (vx) (by apply opN; repeat' (first | apply OpAt.z | apply OpAt.s)) (by rfl) (by rfl) (fun _ W hS => op_mv rfl rfl) ?_
    simp only [Act.put, List.setIfInBounds_toArray, List.set_cons_zero, List.set_cons_succ]
    refine k_val (vy) (by apply opN; repeat' (first | apply OpAt.z | apply OpAt.s)) (by rfl) (by rfl) (fun _ W hS => op_mv rfl rfl) ?_
    simp only [Act.put, List.setIfInBounds_toArray, List.set_cons_zero, List.set_cons_succ]
    refine k_val (.agg #[.int .i64 sh, .int .i64 sc, .slice sa q scp]) (by apply opN; repeat' (first | apply OpAt.z | apply OpAt.s)) (by rfl) (by rfl) (fun _ W hS => op_ld rfl rfl (st_ld (x := (sh, sc, .slice sa q scp)) (st_row (hgW.out W hS)))) ?_
    simp only [Act.put, List.setIfInBounds_toArray, List.set_cons_zero, List.set_cons_succ]
    refine h_fork ?_ ?_
    · refine k_one (fun K' u => ∃ v1, u = .agg (bks z1 v1) ∧ K' = fun W => RwsO W B2 v1 A) (by apply opN; repeat' (first | apply OpAt.z | apply OpAt.s)) (by rfl) (by rfl) (by rfl) (fun W hCW hK => ?_) ?_
      · refine op_x2 rfl rfl rfl rfl cf_make ?_
        refine (hMx.out W (hBw.out W hCW)).mono ?_
        rintro e W' ⟨v1, rfl, h4, h5⟩
        exact ⟨_, rfl, hCW.trans (h5.mono (hsz2.out W hCW)), _, own_base h4 (hsz2.out W hCW), v1, rfl, rfl⟩
      rintro _ _ ⟨v1, rfl, rfl⟩
      simp only [Act.put, List.setIfInBounds_toArray, List.set_cons_zero, List.set_cons_succ]
      refine h_fork ?_ ?_
      · refine k_one (fun K' u => ∃ v2, u = .agg (bks 5 v2) ∧ K' = fun W => RwsO W B2 v1 A ∧ RwsO W B2 v2 E) (by apply opN; repeat' (first | apply OpAt.z | apply OpAt.s)) (by rfl) (by rfl) (by rfl) (fun W hCW hK => ?_) ?_
        · refine op_x2 rfl rfl rfl rfl cf_make ?_
          refine (hMy.out W (hBw.out W hCW)).mono ?_
          rintro e W' ⟨v2, rfl, h4, h5⟩
          exact ⟨_, rfl, hCW.trans (h5.mono (hsz2.out W hCW)), _, ⟨RwsO.next hK h5, own_base h4 (hsz2.out W hCW)⟩, v2, rfl, rfl⟩
        rintro _ _ ⟨v2, rfl, rfl⟩
        simp only [Act.put, List.setIfInBounds_toArray, List.set_cons_zero, List.set_cons_succ]
        refine h_fork ?_ ?_
        · refine k_one (fun K' u => ∃ v4 vs4, u = v4 ∧ K' = fun W => StsO W B2 v4 vs4 S) (by apply opN; repeat' (first | apply OpAt.z | apply OpAt.s)) (by rfl) (by rfl) (by rfl) (fun W hCW hK => ?_) ?_
          · refine op_x2 rfl rfl rfl rfl cf_all ?_
            refine (all_any z1 5 v1 v2 A E (by have := hAk.out.2; omega) (by have := hEk.out.2; omega) hAk.out.near hEk.out.near W (RwsO.row hK.1) (RwsO.row hK.2)).mono ?_
            rintro e W' ⟨v4, vs4, rfl, h4, h5⟩
            rw [← hSH.out] at h4
            exact ⟨_, rfl, hCW.trans (h5.mono (hsz2.out W hCW)), _, h4.base (hsz2.out W hCW), v4, vs4, rfl, rfl⟩
          rintro _ v4 ⟨_, vs4, rfl, rfl⟩
          simp only [Act.put, List.setIfInBounds_toArray, List.set_cons_zero, List.set_cons_succ]
          refine k_step (fun K' u => ∃ g0, u = .slice (some ⟨g0, 0, none⟩) 1 1 ∧ K' = fun W => StsO W B2 v4 vs4 S ∧ W.heap[g0]? = some (.cells #[.int .i64 sh, .int .i64 sc, .slice sa q scp] 39 (0, 0))) (by apply opN; repeat' (first | apply OpAt.z | apply OpAt.s)) (by rfl) (by rfl) (by rfl) (fun W hCW hK => ?_) ?_
          · exact xup_val (op_bs_st rfl rfl) ⟨alloc_bel hCW hb2.out _, _, ⟨StsO.next hK (alloc_bel (Below.refl _ _) (Nat.le_refl _) _), alloc_at1 W _⟩, W.heap.size, rfl, rfl⟩
          rintro _ _ ⟨g0, rfl, rfl⟩
          simp only [Act.put, List.setIfInBounds_toArray, List.set_cons_zero, List.set_cons_succ]
          refine k_step (fun K' u => ∃ v7, u = v7 ∧ K' = fun W => StsV W v7 (S ++ [(sh, sc, lc)])) (by apply opN; repeat' (first | apply OpAt.z | apply OpAt.s)) (by rfl) (by rfl) (by rfl) (fun W hCW hK => ?_) ?_
          · obtain ⟨v7, W7, hrun, hs7, hb7⟩ := StsO.appV hK.1 hK.2 (fun W' hW' => hlcV.out W' (hBw.out W' (hCW.trans hW'))) rfl (by rw [(hK.1).len]; have := hSl.out; omega) (hsz2.out W hCW)
            exact xup_val (op_app rfl rfl rfl hrun) ⟨hCW.trans hb7, _, hs7, v7, rfl, rfl⟩
          rintro _ v7 ⟨_, rfl, rfl⟩
          simp only [Act.put, List.setIfInBounds_toArray, List.set_cons_zero, List.set_cons_succ]
          refine k_val (v7) (by apply opN; repeat' (first | apply OpAt.z | apply OpAt.s)) (by rfl) (by rfl) (fun _ W hS => op_asg rfl rfl) ?_
          simp only [Act.put, List.setIfInBounds_toArray, List.set_cons_zero, List.set_cons_succ]
          refine k_nil ?_
          intro W hCW hK
          have hE9 := hide (And.intro hK (hBw.out W hCW))
          clear hCW hK
          go_wp2
          all_goals go_meet
          all_goals exact hE9.out
        · refine k_one (fun K' u => ∃ g0, u = .slice (some ⟨g0, 0, none⟩) 1 1 ∧ K' = fun W => RwsO W B2 v1 A ∧ RwsO W B2 v2 E ∧ W.heap[g0]? = some (.cells #[.int .i64 sh, .int .i64 sc, .slice sa q scp] 39 (0, 0))) (by apply opN; repeat' (first | apply OpAt.z | apply OpAt.s)) (by rfl) (by rfl) (by rfl) (fun W hCW hK => ?_) ?_
          · exact xup_val (op_bs_st rfl rfl) ⟨alloc_bel hCW hb2.out _, _, ⟨RwsO.next hK.1 (alloc_bel (Below.refl _ _) (Nat.le_refl _) _), RwsO.next hK.2 (alloc_bel (Below.refl _ _) (Nat.le_refl _) _), alloc_at1 W _⟩, W.heap.size, rfl, rfl⟩
          rintro _ _ ⟨g0, rfl, rfl⟩
          simp only [Act.put, List.setIfInBounds_toArray, List.set_cons_zero, List.set_cons_succ]
          refine k_step (fun K' u => ∃ v4 vs4, u = v4 ∧ K' = fun W => StsO W B2 v4 vs4 S ∧ W.heap[g0]? = some (.cells #[.int .i64 sh, .int .i64 sc, .slice sa q scp] 39 (0, 0))) (by apply opN; repeat' (first | apply OpAt.z | apply OpAt.s)) (by rfl) (by rfl) (by rfl) (fun W hCW hK => ?_) ?_
          · refine op_x2 rfl rfl rfl rfl cf_all ?_
            refine (all_any z1 5 v1 v2 A E (by have := hAk.out.2; omega) (by have := hEk.out.2; omega) hAk.out.near hEk.out.near W (RwsO.row hK.1) (RwsO.row hK.2.1)).mono ?_
            rintro e W' ⟨v4, vs4, rfl, h4, h5⟩
            rw [← hSH.out] at h4
            exact ⟨_, rfl, hCW.trans (h5.mono (hsz2.out W hCW)), _, ⟨h4.base (hsz2.out W hCW), (h5.block _ (Array.getElem?_eq_some_iff.1 hK.2.2).1).trans hK.2.2⟩, v4, vs4, rfl, rfl⟩
          rintro _ v4 ⟨_, vs4, rfl, rfl⟩
          simp only [Act.put, List.setIfInBounds_toArray, List.set_cons_zero, List.set_cons_succ]
          refine k_step (fun K' u => ∃ v7, u = v7 ∧ K' = fun W => StsV W v7 (S ++ [(sh, sc, lc)])) (by apply opN; repeat' (first | apply OpAt.z | apply OpAt.s)) (by rfl) (by rfl) (by rfl) (fun W hCW hK => ?_) ?_
          · obtain ⟨v7, W7, hrun, hs7, hb7⟩ := StsO.appV hK.1 hK.2 (fun W' hW' => hlcV.out W' (hBw.out W' (hCW.trans hW'))) rfl (by rw [(hK.1).len]; have := hSl.out; omega) (hsz2.out W hCW)
            exact xup_val (op_app rfl rfl rfl hrun) ⟨hCW.trans hb7, _, hs7, v7, rfl, rfl⟩
          rintro _ v7 ⟨_, rfl, rfl⟩
          simp only [Act.put, List.setIfInBounds_toArray, List.set_cons_zero, List.set_cons_succ]
          refine k_val (v7) (by apply opN; repeat' (first | apply OpAt.z | apply OpAt.s)) (by rfl) (by rfl) (fun _ W hS => op_asg rfl rfl) ?_
          simp only [Act.put, List.setIfInBounds_toArray, List.set_cons_zero, List.set_cons_succ]
          refine k_nil ?_
          intro W hCW hK
          have hE9 := hide (And.intro hK (hBw.out W hCW))
          clear hCW hK
          go_wp2
          all_goals go_meet
          all_goals exact hE9.out
      · refine k_one (fun K' u => ∃ g0, u = .slice (some ⟨g0, 0, none⟩) 1 1 ∧ K' = fun W => RwsO W B2 v1 A ∧ W.heap[g0]? = some (.cells #[.int .i64 sh, .int .i64 sc, .slice sa q scp] 39 (0, 0))) (by apply opN; repeat' (first | apply OpAt.z | apply OpAt.s)) (by rfl) (by rfl) (by rfl) (fun W hCW hK => ?_) ?_
        · exact xup_val (op_bs_st rfl rfl) ⟨alloc_bel hCW hb2.out _, _, ⟨RwsO.next hK (alloc_bel (Below.refl _ _) (Nat.le_refl _) _), alloc_at1 W _⟩, W.heap.size, rfl, rfl⟩
        rintro _ _ ⟨g0, rfl, rfl⟩
        simp only [Act.put, List.setIfInBounds_toArray, List.set_cons_zero, List.set_cons_succ]
        refine k_step (fun K' u => ∃ v2, u = .agg (bks 5 v2) ∧ K' = fun W => RwsO W B2 v1 A ∧ RwsO W B2 v2 E ∧ W.heap[g0]? = some (.cells #[.int .i64 sh, .int .i64 sc, .slice sa q scp] 39 (0, 0))) (by apply opN; repeat' (first | apply OpAt.z | apply OpAt.s)) (by rfl) (by rfl) (by rfl) (fun W hCW hK => ?_) ?_
        · refine op_x2 rfl rfl rfl rfl cf_make ?_
          refine (hMy.out W (hBw.out W hCW)).mono ?_
          rintro e W' ⟨v2, rfl, h4, h5⟩
          exact ⟨_, rfl, hCW.trans (h5.mono (hsz2.out W hCW)), _, ⟨RwsO.next hK.1 h5, own_base h4 (hsz2.out W hCW), (h5.block _ (Array.getElem?_eq_some_iff.1 hK.2).1).trans hK.2⟩, v2, rfl, rfl⟩
        rintro _ _ ⟨v2, rfl, rfl⟩
        simp only [Act.put, List.setIfInBounds_toArray, List.set_cons_zero, List.set_cons_succ]
        refine k_step (fun K' u => ∃ v4 vs4, u = v4 ∧ K' = fun W => StsO W B2 v4 vs4 S ∧ W.heap[g0]? = some (.cells #[.int .i64 sh, .int .i64 sc, .slice sa q scp] 39 (0, 0))) (by apply opN; repeat' (first | apply OpAt.z | apply OpAt.s)) (by rfl) (by rfl) (by rfl) (fun W hCW hK => ?_) ?_
        · refine op_x2 rfl rfl rfl rfl cf_all ?_
          refine (all_any z1 5 v1 v2 A E (by have := hAk.out.2; omega) (by have := hEk.out.2; omega) hAk.out.near hEk.out.near W (RwsO.row hK.1) (RwsO.row hK.2.1)).mono ?_
          rintro e W' ⟨v4, vs4, rfl, h4, h5⟩
          rw [← hSH.out] at h4
          exact ⟨_, rfl, hCW.trans (h5.mono (hsz2.out W hCW)), _, ⟨h4.base (hsz2.out W hCW), (h5.block _ (Array.getElem?_eq_some_iff.1 hK.2.2).1).trans hK.2.2⟩, v4, vs4, rfl, rfl⟩
        rintro _ v4 ⟨_, vs4, rfl, rfl⟩
        simp only [Act.put, List.setIfInBounds_toArray, List.set_cons_zero, List.set_cons_succ]
        refine k_step (fun K' u => ∃ v7, u = v7 ∧ K' = fun W => StsV W v7 (S ++ [(sh, sc, lc)])) (by apply opN; repeat' (first | apply OpAt.z | apply OpAt.s)) (by rfl) (by rfl) (by rfl) (fun W hCW hK => ?_) ?_
        · obtain ⟨v7, W7, hrun, hs7, hb7⟩ := StsO.appV hK.1 hK.2 (fun W' hW' => hlcV.out W' (hBw.out W' (hCW.trans hW'))) rfl (by rw [(hK.1).len]; have := hSl.out; omega) (hsz2.out W hCW)
          exact xup_val (op_app rfl rfl rfl hrun) ⟨hCW.trans hb7, _, hs7, v7, rfl, rfl⟩
        rintro _ v7 ⟨_, rfl, rfl⟩
        simp only [Act.put, List.setIfInBounds_toArray, List.set_cons_zero, List.set_cons_succ]
        refine k_val (v7) (by apply opN; repeat' (first | apply OpAt.z | apply OpAt.s)) (by rfl) (by rfl) (fun _ W hS => op_asg rfl rfl) ?_
        simp only [Act.put, List.setIfInBounds_toArray, List.set_cons_zero, List.set_cons_succ]
        refine k_nil ?_
        intro W hCW hK
        have hE9 := hide (And.intro hK (hBw.out W hCW))
        clear hCW hK
        go_wp2
        all_goals go_meet
        all_goals exact hE9.out
    · refine k_one (fun K' u => ∃ g0, u = .slice (some ⟨g0, 0, none⟩) 1 1 ∧ K' = fun W => W.heap[g0]? = some (.cells #[.int .i64 sh, .int .i64 sc, .slice sa q scp] 39 (0, 0))) (by apply opN; repeat' (first | apply OpAt.z | apply OpAt.s)) (by rfl) (by rfl) (by rfl) (fun W hCW hK => ?_) ?_
      · exact xup_val (op_bs_st rfl rfl) ⟨alloc_bel hCW hb2.out _, _, alloc_at1 W _, W.heap.size, rfl, rfl⟩
      rintro _ _ ⟨g0, rfl, rfl⟩
      simp only [Act.put, List.setIfInBounds_toArray, List.set_cons_zero, List.set_cons_succ]
      refine k_step (fun K' u => ∃ v1, u = .agg (bks z1 v1) ∧ K' = fun W => RwsO W B2 v1 A ∧ W.heap[g0]? = some (.cells #[.int .i64 sh, .int .i64 sc, .slice sa q scp] 39 (0, 0))) (by apply opN; repeat' (first | apply OpAt.z | apply OpAt.s)) (by rfl) (by rfl) (by rfl) (fun W hCW hK => ?_) ?_
      · refine op_x2 rfl rfl rfl rfl cf_make ?_
        refine (hMx.out W (hBw.out W hCW)).mono ?_
        rintro e W' ⟨v1, rfl, h4, h5⟩
        exact ⟨_, rfl, hCW.trans (h5.mono (hsz2.out W hCW)), _, ⟨own_base h4 (hsz2.out W hCW), (h5.block _ (Array.getElem?_eq_some_iff.1 hK).1).trans hK⟩, v1, rfl, rfl⟩
      rintro _ _ ⟨v1, rfl, rfl⟩
      simp only [Act.put, List.setIfInBounds_toArray, List.set_cons_zero, List.set_cons_succ]
      refine k_step (fun K' u => ∃ v2, u = .agg (bks 5 v2) ∧ K' = fun W => RwsO W B2 v1 A ∧ RwsO W B2 v2 E ∧ W.heap[g0]? = some (.cells #[.int .i64 sh, .int .i64 sc, .slice sa q scp] 39 (0, 0))) (by apply opN; repeat' (first | apply OpAt.z | apply OpAt.s)) (by rfl) (by rfl) (by rfl) (fun W hCW hK => ?_) ?_
      · refine op_x2 rfl rfl rfl rfl cf_make ?_
        refine (hMy.out W (hBw.out W hCW)).mono ?_
        rintro e W' ⟨v2, rfl, h4, h5⟩
        exact ⟨_, rfl, hCW.trans (h5.mono (hsz2.out W hCW)), _, ⟨RwsO.next hK.1 h5, own_base h4 (hsz2.out W hCW), (h5.block _ (Array.getElem?_eq_some_iff.1 hK.2).1).trans hK.2⟩, v2, rfl, rfl⟩
      rintro _ _ ⟨v2, rfl, rfl⟩
      simp only [Act.put, List.setIfInBounds_toArray, List.set_cons_zero, List.set_cons_succ]
      refine k_step (fun K' u => ∃ v4 vs4, u = v4 ∧ K' = fun W => StsO W B2 v4 vs4 S ∧ W.heap[g0]? = some (.cells #[.int .i64 sh, .int .i64 sc, .slice sa q scp] 39 (0, 0))) (by apply opN; repeat' (first | apply OpAt.z | apply OpAt.s)) (by rfl) (by rfl) (by rfl) (fun W hCW hK => ?_) ?_
      · refine op_x2 rfl rfl rfl rfl cf_all ?_
        refine (all_any z1 5 v1 v2 A E (by have := hAk.out.2; omega) (by have := hEk.out.2; omega) hAk.out.near hEk.out.near W (RwsO.row hK.1) (RwsO.row hK.2.1)).mono ?_
        rintro e W' ⟨v4, vs4, rfl, h4, h5⟩
        rw [← hSH.out] at h4
        exact ⟨_, rfl, hCW.trans (h5.mono (hsz2.out W hCW)), _, ⟨h4.base (hsz2.out W hCW), (h5.block _ (Array.getElem?_eq_some_iff.1 hK.2.2).1).trans hK.2.2⟩, v4, vs4, rfl, rfl⟩
      rintro _ v4 ⟨_, vs4, rfl, rfl⟩
      simp only [Act.put, List.setIfInBounds_toArray, List.set_cons_zero, List.set_cons_succ]
      refine k_step (fun K' u => ∃ v7, u = v7 ∧ K' = fun W => StsV W v7 (S ++ [(sh, sc, lc)])) (by apply opN; repeat' (first | apply OpAt.z | apply OpAt.s)) (by rfl) (by rfl) (by rfl) (fun W hCW hK => ?_) ?_
      · obtain ⟨v7, W7, hrun, hs7, hb7⟩ := StsO.appV hK.1 hK.2 (fun W' hW' => hlcV.out W' (hBw.out W' (hCW.trans hW'))) rfl (by rw [(hK.1).len]; have := hSl.out; omega) (hsz2.out W hCW)
        exact xup_val (op_app rfl rfl rfl hrun) ⟨hCW.trans hb7, _, hs7, v7, rfl, rfl⟩
      rintro _ v7 ⟨_, rfl, rfl⟩
      simp only [Act.put, List.setIfInBounds_toArray, List.set_cons_zero, List.set_cons_succ]
      refine k_val (v7) (by apply opN; repeat' (first | apply OpAt.z | apply OpAt.s)) (by rfl) (by rfl) (fun _ W hS => op_asg rfl rfl) ?_
      simp only [Act.put, List.setIfInBounds_toArray, List.set_cons_zero, List.set_cons_succ]
      refine k_nil ?_
      intro W hCW hK
      have hE9 := hide (And.intro hK (hBw.out W hCW))
      clear hCW hK
      go_wp2
      all_goals go_meet
      all_goals exact hE9.out
  case rest =>
  obtain ⟨hv9, hB9⟩ := hcut
  obtain ⟨w3, hw3⟩ : ∃ x, x = wc := ⟨_, rfl⟩
  subst hw3
  obtain ⟨L, hL⟩ : ∃ L, L = S ++ [(sh, sc, lc)] := ⟨_, rfl⟩
  rw [← hL] at hv9
  obtain ⟨aL, cL, rfl, hgL⟩ := hv9.got
  obtain ⟨nL, hnL⟩ : ∃ n, n = L.length := ⟨_, rfl⟩
  have hin := hide (show ∀ (j : Nat) (t : RW.St), L[j]? = some t → (RW.valB t = true ∨ j + 1 = nL) ∧ t.2.2.length ≤ 1210 from by
    intro j t ht
    rw [hL] at ht
    have hl0 : nL = S.length + 1 := by rw [hnL, hL, List.length_append]; rfl
    rcases Nat.lt_or_ge j S.length with h | h
    · rw [List.getElem?_append_left h] at ht
      have h1 := List.mem_of_getElem? ht
      rw [hSH.out] at h1
      have h2 := RW.valB_mk hEk.out hAk.out (by decide) (by decide) h1
      exact ⟨.inl h2, by have := (RW.valB_facts h2).2.2; omega⟩
    · rw [List.getElem?_append_right h] at ht
      rcases hii : j - S.length with _ | k
      · rw [hii] at ht
        simp at ht
        subst ht
        exact ⟨.inr (by omega), by show lc.length ≤ 1210; rw [hlcH.out, List.length_take]; have := hq1.out.1; omega⟩
      · rw [hii] at ht
        simp at ht)
  have hnb : nL ≤ 101 := by rw [hnL, hL, List.length_append, List.length_singleton]; have := hSl.out; omega
  have hgW := hide (fun W (hW : Below w3.heap.size w3 W) (j : Nat) (t : RW.St) (hj : L[j]? = some t) => (show ∃ b o x, aL = some ⟨b, o, none⟩ ∧ b < W.heap.size ∧ W.rangeAt b (o + j * 3) (stc (t.1, t.2.1, x)) ∧ LnsV W x t.2.2 from by
    obtain ⟨b, o, x, h1, h2, h3, h4⟩ := hgL j t hj
    exact ⟨b, o, x, h1, Nat.lt_of_lt_of_le h2 hW.size, fun i u hu => (World.cell?_of_block (a := ⟨b, o + j * 3 + i, none⟩) (hW.block _ h2)).trans (h3 i u hu), h4.next hW⟩))
  rw [← hnL]
  have hB3 := hide hB9
  have hnLH := hide hnL
  obtain ⟨mm, hmm⟩ : ∃ m, m = min more.size 20 := ⟨_, rfl⟩
  have hmmH := hide hmm
  have hmin : min ((more.size : Nat) : Int) 20 = (mm : Int) := by omega
  have hb1 : (0 : Int) ≤ (mm : Int) := by omega
  have hb2 : (mm : Int) ≤ (more.size : Int) := by omega
  obtain ⟨Y, hY⟩ : ∃ Y, Y = more.extract 0 mm := ⟨_, rfl⟩
  have hYs := hide (show Y.size ≤ 20 ∧ (Y.size = 0 ↔ more.size = 0) by
    have e : Y.size = mm := by rw [hY, ByteArray.size_extract]; omega
    omega)
  have hYH := hide hY
  clear hY hmm hnL hL hgL hv9 hB9
  go_wp2
  go_loopw [15] (fun i wr => ∃ (j : Nat), i = .int .i64 j ∧ j ≤ nL ∧ Hid (Below w3.heap.size w3 wr)) (fun i _ => nL - (intOf i).toNat)
  case atStart => exact ⟨0, rfl, Nat.zero_le _, Below.refl _ _⟩
  case round =>
    obtain ⟨j, rfl, hj, hQ⟩ := hrel
    obtain ⟨wo, hwo⟩ : ∃ wo, wo = wr := ⟨_, rfl⟩
    subst hwo
    have hBo := hide hQ.out
    clear hQ
    by_cases hjn : j < nL
    · obtain ⟨⟨t1, t2, tl⟩, ht⟩ : ∃ t, L[j]? = some t := ⟨_, List.getElem?_eq_getElem (by rw [← hnLH.out]; exact hjn)⟩
      have hok := hide (show (RW.valB (t1, t2, tl) = true ∨ j + 1 = nL) ∧ tl.length ≤ 1210 from hin.out j _ ht)
      obtain ⟨b, o, x, rfl, hb0, hr0, hl0⟩ := hgW.out wo hBo.out j _ ht
      have hr0' : wo.rangeAt b (o + j * 3) (stc (t1, t2, x)) := hr0
      have hl0' : LnsV wo x tl := hl0
      obtain ⟨ax, cx, rfl, _, _⟩ := id hl0'
      obtain ⟨nl, hnl⟩ : ∃ n, n = tl.length := ⟨_, rfl⟩
      rw [← hnl] at hr0' hl0'
      have hgx := hide (fun W (hW : Below wo.heap.size wo W) => (show W.rangeAt b (o + j * 3) (stc (t1, t2, .slice ax nl cx)) ∧ LnsV W (.slice ax nl cx) tl from ⟨fun i u hu => (World.cell?_of_block (a := ⟨b, o + j * 3 + i, none⟩) (hW.block _ hb0)).trans (hr0' i u hu), hl0'.next hW⟩))
      have hE := hide (encode_any t1 t2 (.slice ax nl cx) tl (by have := hok.out.2; omega) wo hl0')
      have hnlH := hide hnl
      have hjH := hide hjn
      have hrg : wo.rangeAt b (o + j * 3) (stc (t1, t2, .slice ax nl cx)) := hr0'
      have hps := st_size (t1, t2, .slice ax nl cx)
      clear ht hb0 hr0 hl0 hr0' hl0' hnl
      by_cases hv : RW.valB (t1, t2, tl) = true
      · obtain ⟨X, hX⟩ : ∃ X : ByteArray, X = ⟨(RW.encS (t1, t2, tl)).toArray⟩ := ⟨_, rfl⟩
        rw [show RW.encRes (t1, t2, tl) = .tuple #[.string X, .int .i64 0] by unfold RW.encRes; rw [if_pos hv, hX]] at hE
        have hXl : X.data.toList = RW.encS (t1, t2, tl) := by rw [hX]
        have hXs : X.size = (RW.encS (t1, t2, tl)).length := by rw [hX]; exact RW.size_arr _
        have hX1 : 1 ≤ X.size := by rw [hXs]; exact RW.encS_pos hv
        have hX2 : X.size ≤ 40000 := by rw [hXs]; exact RW.encS_len hv
        have hD1 := hide (fun W => decode_any X (by omega) W)
        rw [show RW.decT X.data.toList = .st (t1, t2, tl) by rw [hXl]; have := RW.decT_enc hv []; rwa [List.append_nil, if_neg (by simp)] at this] at hD1
        obtain ⟨k, hk⟩ := Int.eq_ofNat_of_zero_le (RW.pickI_bd n X.size (by omega)).1
        have hk2 := (RW.pickI_bd n X.size (by omega)).2
        rw [hk] at hk2
        have hP := hide (fun W => pick_any n X.size hn0 hn1 (by omega) (by omega) W)
        rw [hk] at hP
        have hk3 : (0 : Int) ≤ (k : Int) := by omega
        have hk4 : (k : Int) ≤ (X.size : Int) := by omega
        have hmx : max (X.size : Int) 1 = (X.size : Int) := by omega
        have hD2 := hide (fun W => decode_any (X.extract 0 k) (by rw [ByteArray.size_extract]; omega) W)
        rw [show RW.decT (X.extract 0 k).data.toList = .wire by
          rw [show (X.extract 0 k).data.toList = (RW.encS (t1, t2, tl)).take k by rw [hX]; simp]
          exact RW.decT_cut hv k (by omega)] at hD2
        obtain ⟨p, hp⟩ : ∃ p, p = more.toList.isEmpty := ⟨_, rfl⟩
        have hXY : (X ++ Y).data.toList = RW.encS (t1, t2, tl) ++ Y.data.toList := by rw [hX]; simp [ByteArray.data_append]
        have hD3' := hide (fun W => decode_any (X ++ Y) (by have := hYs.out.1; rw [ByteArray.size_append]; omega) W)
        obtain ⟨⟨⟨p3, q3, l3⟩, e3⟩, hg3⟩ : ∃ g, g = RW.gotV (RW.decT (X ++ Y).data.toList) := ⟨_, rfl⟩
        have he3 := hide (show decide (e3 = 0) = p from by
          have h1 : e3 = (RW.gotV (RW.decT (X ++ Y).data.toList)).2 := by rw [← hg3]
          rw [hXY, RW.decT_enc hv] at h1
          rw [hp, RW.emp_iff, h1]
          have h2 : Y.data.toList = [] ↔ more.size = 0 := by
            rw [← hYs.out.2]
            show _ ↔ Y.data.size = 0
            rw [← Array.length_toList, List.length_eq_zero_iff]
          by_cases h0 : more.size = 0
          · rw [if_neg (by rw [h2.2 h0]; simp), decide_eq_true h0]; rfl
          · rw [if_pos (fun e => h0 (h2.1 e)), decide_eq_false h0]; rfl)
        have hD3 := hide (fun W e w' (h : DecOut (RW.decT (X ++ Y).data.toList) e W w') => (show ∃ v, e = .returned (.tuple #[.agg #[.int .i64 p3, .int .i64 q3, v], .int .i64 e3]) ∧ LnsO w' W v l3 by have := h.val; rwa [← hg3] at this))
        have hpH := hide hp
        have hXYs : X.size + Y.size ≤ 9223372036854775807 := by have := hYs.out.1; omega
        have hXYs2 : ¬ (9223372036854775807 < X.size + Y.size) := by omega
        clear hX hXl hXs hv hk hk2 hp hXY hg3
        go_upto_region 8 with (first
          | (refine wpList_load_mid rfl 39 (.tmp 54) rfl b (o + j * 3) rfl (stc (t1, t2, .slice ax nl cx)) _ hrg Try.underlying39 rfl hps ?_)
          | (go_at_call 20; refine hE.out.mono ?_; rintro e w4 ⟨rfl, hB4⟩; have hB4H := hide hB4; clear hB4))
        clear hE hrg hps
        go_upto_region 12 with (go_at_call 22; refine (hD1.out _).mono ?_; rintro e w5 ⟨⟨v5, rfl, hL5⟩, hB5⟩; obtain ⟨a5, c5, e5⟩ := lnl_block hL5; subst e5; have hL5H := hide hL5; have hB5H := hide hB5; clear hL5 hB5)
        obtain ⟨g1, hg1⟩ : ∃ g, g = w5.heap.size := ⟨_, rfl⟩
        have hS5 := hide (show Rt4 (w5.alloc (.cells #[.int .i64 t1, .int .i64 t2, .slice a5 tl.length c5] 39)) wo g1 t1 t2 (.slice a5 tl.length c5) tl from by
          have h4 := alloc_bel (Below.refl w5.heap.size w5) (Nat.le_refl _) (.cells #[.int .i64 t1, .int .i64 t2, .slice a5 tl.length c5] 39)
          have h5 := hB4H.out.trans (hB5H.out.mono hB4H.out.size)
          exact ⟨newAt hg1, (LnsO.next hL5H.out h4).row, h5.trans (h4.mono h5.size)⟩)
        rw [← hg1]
        refine gen_w (fun W => Rt4 W wo g1 t1 t2 (.slice a5 tl.length c5) tl) hS5.out ?_
        clear hS5 hg1 hL5H hB5H hB4H hD1
        intro w6 hS6
        have hS6H := hide hS6
        clear hS6
        go_upto_region 13 with (first
          | (go_at_call 11; refine (hP.out _).mono ?_; rintro e w' ⟨rfl, rfl⟩)
          | (go_at_call 22; refine (hD2.out _).mono ?_; rintro e w7 ⟨rfl, hB7⟩; have hB7H := hide hB7; clear hB7))
        have hS7 := hide (show Rt4 (w7.alloc (.cells #[.int .i64 0, .int .i64 0, .slice none 0 0] 39)) wo g1 t1 t2 (.slice a5 tl.length c5) tl from (hS6H.out.next hB7H.out).next (alloc_bel (Below.refl _ _) (Nat.le_refl _) _))
        obtain ⟨g2, hg2⟩ : ∃ g, g = w7.heap.size := ⟨_, rfl⟩
        rw [← hg2]
        refine gen_w (fun W => Rt4 W wo g1 t1 t2 (.slice a5 tl.length c5) tl) hS7.out ?_
        clear hS7 hg2 hS6H hB7H hD2 hP hk3 hk4 hmx
        intro w8 hS8
        have hS8H := hide hS8
        clear hS8
        go_upto_region 14 with (go_at_call 22; rw [← hYH.out]; refine (hD3'.out _).mono ?_; rintro e w9 ⟨hO9, hB9⟩; obtain ⟨v9, rfl, hL9⟩ := hD3.out _ _ _ hO9; obtain ⟨a9, c9, e9⟩ := lnl_block hL9; subst e9; have hB9H := hide hB9; clear hL9 hB9 hO9)
        have hS9 := hide (show Rt4 (w9.alloc (.cells #[.int .i64 p3, .int .i64 q3, .slice a9 l3.length c9] 39)) wo g1 t1 t2 (.slice a5 tl.length c5) tl from (hS8H.out.next hB9H.out).next (alloc_bel (Below.refl _ _) (Nat.le_refl _) _))
        obtain ⟨g3, hg3'⟩ : ∃ g, g = w9.heap.size := ⟨_, rfl⟩
        rw [← hg3']
        refine gen_w (fun W => Rt4 W wo g1 t1 t2 (.slice a5 tl.length c5) tl) hS9.out ?_
        clear hS9 hg3' hS8H hB9H hD3 hD3' hXYs hXYs2
        intro w10 hS10
        have hQ := hide (fun W (hW : Below w10.heap.size w10 W) => hS10.next hW)
        have hQg := hide (fun W (hW : Below w10.heap.size w10 W) => hgx.out W (hQ.out W hW).bel)
        clear hS10 hgx
        refine wp_region_k (fun _ W => Below w10.heap.size w10 W) (fun _ => True) [8] (.op 0 (.op 1 (.op 2 (.op 3 (.op 4 (.op 5 (.op 6 (.op 7 (.op 8 (.op 9 (.op 10 (.op 11 (.op 12 (.op 13 (.op 14 (.op 15 (.op 16 (.op 17 (.op 18 (.op 19 (.op 20 (.op 21 .nil)))))))))))))))))))))) (by kernel_rfl) (by kernel_rfl) (by rfl) (by kernel_rfl) (Below.refl w10.heap.size w10).drew trivial ?_
        refine k_val (.int .i64 0) (by apply opN; repeat' (first | apply OpAt.z | apply OpAt.s)) (by rfl) (by rfl) (fun _ W hS => op_mv rfl rfl) ?_
        simp only [Act.put, List.setIfInBounds_toArray, List.set_cons_zero, List.set_cons_succ]
        refine k_val (.bool false) (by apply opN; repeat' (first | apply OpAt.z | apply OpAt.s)) (by rfl) (by rfl) (fun _ W hS => op_neE rfl rfl rfl) ?_
        simp only [Act.put, List.setIfInBounds_toArray, List.set_cons_zero, List.set_cons_succ]
        refine k_val (.bool false) (by apply opN; repeat' (first | apply OpAt.z | apply OpAt.s)) (by rfl) (by rfl) (fun _ W hS => op_mv rfl rfl) ?_
        simp only [Act.put, List.setIfInBounds_toArray, List.set_cons_zero, List.set_cons_succ]
        refine k_val (.slice (some ⟨b, o, none⟩) nL cL) (by apply opN; repeat' (first | apply OpAt.z | apply OpAt.s)) (by rfl) (by rfl) (fun _ W hS => op_mv rfl rfl) ?_
        simp only [Act.put, List.setIfInBounds_toArray, List.set_cons_zero, List.set_cons_succ]
        refine k_val (.int .i64 (j : Int)) (by apply opN; repeat' (first | apply OpAt.z | apply OpAt.s)) (by rfl) (by rfl) (fun _ W hS => op_mv rfl rfl) ?_
        simp only [Act.put, List.setIfInBounds_toArray, List.set_cons_zero, List.set_cons_succ]
        refine k_val (.pointer (some ⟨b, o + j * 3, none⟩)) (by apply opN; repeat' (first | apply OpAt.z | apply OpAt.s)) (by rfl) (by rfl) (fun _ W hS => op_ix rfl rfl rfl (ix_st hjH.out W)) ?_
        simp only [Act.put, List.setIfInBounds_toArray, List.set_cons_zero, List.set_cons_succ]
        refine k_val (.agg #[.int .i64 t1, .int .i64 t2, .slice ax nl cx]) (by apply opN; repeat' (first | apply OpAt.z | apply OpAt.s)) (by rfl) (by rfl) (fun _ W hS => op_ld rfl rfl (st_ld (x := (t1, t2, .slice ax nl cx)) (hQg.out W hS).1)) ?_
        simp only [Act.put, List.setIfInBounds_toArray, List.set_cons_zero, List.set_cons_succ]
        refine k_val (.agg #[.int .i64 t1, .int .i64 t2, .slice a5 tl.length c5]) (by apply opN; repeat' (first | apply OpAt.z | apply OpAt.s)) (by rfl) (by rfl) (fun _ W hS => op_ld rfl rfl (st_ld (x := (t1, t2, .slice a5 tl.length c5)) (st_row (hQ.out W hS).g))) ?_
        simp only [Act.put, List.setIfInBounds_toArray, List.set_cons_zero, List.set_cons_succ]
        refine k_step (fun K' u => u = .bool true ∧ K' = fun _ => True) (by apply opN; repeat' (first | apply OpAt.z | apply OpAt.s)) (by rfl) (by rfl) (by rfl) (fun W hCW _ => ?_) ?_
        · refine op_x2 rfl rfl rfl rfl cf_same ?_
          refine (ssame_any t1 t2 t1 t2 (.slice ax nl cx) (.slice a5 tl.length c5) tl tl (by have := hok.out.2; omega) (by have := hok.out.2; omega) W (hQg.out W hCW).2 (hQ.out W hCW).l).mono ?_
          rintro e W' ⟨rfl, h5⟩
          exact ⟨_, rfl, hCW.trans (h5.mono hCW.size), _, trivial, by rw [decide_eq_true ⟨rfl, rfl, rfl⟩], rfl⟩
        rintro _ _ ⟨rfl, rfl⟩
        simp only [Act.put, List.setIfInBounds_toArray, List.set_cons_zero, List.set_cons_succ]
        refine k_val (.bool false) (by apply opN; repeat' (first | apply OpAt.z | apply OpAt.s)) (by rfl) (by rfl) (fun _ W hS => op_not (p := true) rfl rfl) ?_
        simp only [Act.put, List.setIfInBounds_toArray, List.set_cons_zero, List.set_cons_succ]
        refine k_val (.bool false) (by apply opN; repeat' (first | apply OpAt.z | apply OpAt.s)) (by rfl) (by rfl) (fun _ W hS => op_pk rfl rfl rfl rfl rfl) ?_
        simp only [Act.put, List.setIfInBounds_toArray, List.set_cons_zero, List.set_cons_succ]
        refine k_val (.bool false) (by apply opN; repeat' (first | apply OpAt.z | apply OpAt.s)) (by rfl) (by rfl) (fun _ W hS => op_mv rfl rfl) ?_
        simp only [Act.put, List.setIfInBounds_toArray, List.set_cons_zero, List.set_cons_succ]
        refine k_val (.int .i64 10) (by apply opN; repeat' (first | apply OpAt.z | apply OpAt.s)) (by rfl) (by rfl) (fun _ W hS => op_mv rfl rfl) ?_
        simp only [Act.put, List.setIfInBounds_toArray, List.set_cons_zero, List.set_cons_succ]
        refine k_val (.bool false) (by apply opN; repeat' (first | apply OpAt.z | apply OpAt.s)) (by rfl) (by rfl) (fun _ W hS => op_neE rfl rfl rfl) ?_
        simp only [Act.put, List.setIfInBounds_toArray, List.set_cons_zero, List.set_cons_succ]
        refine k_val (.bool false) (by apply opN; repeat' (first | apply OpAt.z | apply OpAt.s)) (by rfl) (by rfl) (fun _ W hS => op_pk rfl rfl rfl rfl rfl) ?_
        simp only [Act.put, List.setIfInBounds_toArray, List.set_cons_zero, List.set_cons_succ]
        refine k_val (.bool false) (by apply opN; repeat' (first | apply OpAt.z | apply OpAt.s)) (by rfl) (by rfl) (fun _ W hS => op_mv rfl rfl) ?_
        simp only [Act.put, List.setIfInBounds_toArray, List.set_cons_zero, List.set_cons_succ]
        refine k_val (.int .i64 e3) (by apply opN; repeat' (first | apply OpAt.z | apply OpAt.s)) (by rfl) (by rfl) (fun _ W hS => op_mv rfl rfl) ?_
        simp only [Act.put, List.setIfInBounds_toArray, List.set_cons_zero, List.set_cons_succ]
        refine k_val (.bool p) (by apply opN; repeat' (first | apply OpAt.z | apply OpAt.s)) (by rfl) (by rfl) (fun _ W hS => (op_eqE rfl rfl rfl).trans (by rw [he3.out])) ?_
        simp only [Act.put, List.setIfInBounds_toArray, List.set_cons_zero, List.set_cons_succ]
        refine k_val (.string more) (by apply opN; repeat' (first | apply OpAt.z | apply OpAt.s)) (by rfl) (by rfl) (fun _ W hS => op_mv rfl rfl) ?_
        simp only [Act.put, List.setIfInBounds_toArray, List.set_cons_zero, List.set_cons_succ]
        refine k_val (.bool p) (by apply opN; repeat' (first | apply OpAt.z | apply OpAt.s)) (by rfl) (by rfl) (fun _ W hS => (op_emp rfl rfl rfl).trans (by rw [← hpH.out])) ?_
        simp only [Act.put, List.setIfInBounds_toArray, List.set_cons_zero, List.set_cons_succ]
        refine k_val (.bool false) (by apply opN; repeat' (first | apply OpAt.z | apply OpAt.s)) (by rfl) (by rfl) (fun _ W hS => op_neb rfl rfl rfl) ?_
        simp only [Act.put, List.setIfInBounds_toArray, List.set_cons_zero, List.set_cons_succ]
        refine k_val (.bool false) (by apply opN; repeat' (first | apply OpAt.z | apply OpAt.s)) (by rfl) (by rfl) (fun _ W hS => op_pk rfl rfl rfl rfl rfl) ?_
        simp only [Act.put, List.setIfInBounds_toArray, List.set_cons_zero, List.set_cons_succ]
        refine k_nil ?_
        intro W hCW _
        have hB11 := hide (hBo.out.trans ((hQ.out W hCW).bel.mono hBo.out.size))
        clear hCW hQ hQg
        go_wp2
        go_roundw
        case rel => exact ⟨j + 1, by go_num, by have := hjH.out; omega, hB11.out⟩
        case measure => simp [intOf]; have := hjH.out; omega
      · have hlast := hok.out.1.resolve_left hv
        rw [show RW.encRes (t1, t2, tl) = .tuple #[.string ⟨#[]⟩, .int .i64 190] by unfold RW.encRes; rw [if_neg hv]] at hE
        have h9 : ¬ ((j : Int) < (nL : Int) - 1) := by omega
        have h9' : (nL : Int) - 1 ≤ (j : Int) := by omega
        clear hv hlast
        go_upto_region 8 with (first
          | (refine wpList_load_mid rfl 39 (.tmp 54) rfl b (o + j * 3) rfl (stc (t1, t2, .slice ax nl cx)) _ hrg Try.underlying39 rfl hps ?_)
          | (go_at_call 20; refine hE.out.mono ?_; rintro e w4 ⟨rfl, hB4⟩; have hB4H := hide hB4; clear hB4))
        clear hE hrg hps
        have hB11 := hide (hBo.out.trans (hB4H.out.mono hBo.out.size))
        go_wp2
        go_roundw
        case rel => exact ⟨j + 1, by go_num, by have := hjH.out; omega, hB11.out⟩
        case measure => simp [intOf]; have := hjH.out; omega
    · obtain rfl : nL = j := by omega
      have hBx := hide (hB3.out.trans (hBo.out.mono (by rw [hBH.out]; exact hB3.out.size)))
      have hBs := hide (show B ≤ wo.heap.size by rw [hBH.out]; exact hBx.out.size)
      clear hgW hin
      have hD := hide (fun W => decode_any s hs W)
      rcases hdt : RW.decT s.data.toList with _ | _ | ⟨⟨p, q', ls⟩⟩
      · rw [hdt] at hD
        have hE := hide (fun W => encode_any 0 0 (.slice none 0 0) [] (by decide) W (LnsO.nil W W.heap.size).row)
        rw [show RW.encRes (0, 0, []) = .tuple #[.string ⟨#[]⟩, .int .i64 190] from rfl] at hE
        clear hdt
        go_upto_region 17 with (go_at_call 22; refine (hD.out _).mono ?_; rintro e w5 ⟨rfl, hB5⟩; have hB5H := hide hB5; clear hB5)
        obtain ⟨D, hDe⟩ : ∃ D, D = w5.heap.size := ⟨_, rfl⟩
        have hS5 := hide (show (w5.alloc (.cells #[.int .i64 0, .int .i64 0, .slice none 0 0] 39)).heap[D]? = some (.cells #[.int .i64 0, .int .i64 0, .slice none 0 0] 39 (0, 0)) ∧ Below B w (w5.alloc (.cells #[.int .i64 0, .int .i64 0, .slice none 0 0] 39)) from by
          have h4 := alloc_bel (Below.refl w5.heap.size w5) (Nat.le_refl _) (.cells #[.int .i64 0, .int .i64 0, .slice none 0 0] 39)
          have h5 := hBx.out.trans (hB5H.out.mono hBs.out)
          exact ⟨newAt hDe, h5.trans (h4.mono (by rw [hBH.out]; exact h5.size))⟩)
        rw [← hDe]
        refine gen_w (fun W => W.heap[D]? = some (.cells #[.int .i64 0, .int .i64 0, .slice none 0 0] 39 (0, 0)) ∧ Below B w W) hS5.out ?_
        clear hS5 hDe hB5H hD
        rintro w6 ⟨k6, hB6⟩
        have hB6H := hide hB6
        have c2 : w6.cell? ⟨D, 2, none⟩ = some (.slice none 0 0) := cellAt k6 2
        have k6H := hide k6
        have his := st_size (0, 0, .slice none 0 0)
        clear hB6
        go_wp2_with (first
          | (refine wpList_load_row rfl 39 (.tmp 24) rfl D rfl 39 _ (0, 0) _ k6 Try.underlying39 rfl his ?_)
          | (go_at_call 20; refine (hE.out _).mono ?_; rintro e w7 ⟨rfl, hB7⟩; have c7 : w7.cell? ⟨D, 2, none⟩ = some (.slice none 0 0) := cellAt ((hB7.block _ (Array.getElem?_eq_some_iff.1 k6H.out).1).trans k6H.out) 2; have hB7H := hide (hB6H.out.trans (hB7.mono (by rw [hBH.out]; exact hB6H.out.size))); clear hB7))
        go_ret
        exact ⟨rfl, hB7H.out⟩
      · rw [hdt] at hD
        have hE := hide (fun W => encode_any 0 0 (.slice none 0 0) [] (by decide) W (LnsO.nil W W.heap.size).row)
        rw [show RW.encRes (0, 0, []) = .tuple #[.string ⟨#[]⟩, .int .i64 190] from rfl] at hE
        clear hdt
        go_upto_region 17 with (go_at_call 22; refine (hD.out _).mono ?_; rintro e w5 ⟨rfl, hB5⟩; have hB5H := hide hB5; clear hB5)
        obtain ⟨D, hDe⟩ : ∃ D, D = w5.heap.size := ⟨_, rfl⟩
        have hS5 := hide (show (w5.alloc (.cells #[.int .i64 0, .int .i64 0, .slice none 0 0] 39)).heap[D]? = some (.cells #[.int .i64 0, .int .i64 0, .slice none 0 0] 39 (0, 0)) ∧ Below B w (w5.alloc (.cells #[.int .i64 0, .int .i64 0, .slice none 0 0] 39)) from by
          have h4 := alloc_bel (Below.refl w5.heap.size w5) (Nat.le_refl _) (.cells #[.int .i64 0, .int .i64 0, .slice none 0 0] 39)
          have h5 := hBx.out.trans (hB5H.out.mono hBs.out)
          exact ⟨newAt hDe, h5.trans (h4.mono (by rw [hBH.out]; exact h5.size))⟩)
        rw [← hDe]
        refine gen_w (fun W => W.heap[D]? = some (.cells #[.int .i64 0, .int .i64 0, .slice none 0 0] 39 (0, 0)) ∧ Below B w W) hS5.out ?_
        clear hS5 hDe hB5H hD
        rintro w6 ⟨k6, hB6⟩
        have hB6H := hide hB6
        have c2 : w6.cell? ⟨D, 2, none⟩ = some (.slice none 0 0) := cellAt k6 2
        have k6H := hide k6
        have his := st_size (0, 0, .slice none 0 0)
        clear hB6
        go_wp2_with (first
          | (refine wpList_load_row rfl 39 (.tmp 24) rfl D rfl 39 _ (0, 0) _ k6 Try.underlying39 rfl his ?_)
          | (go_at_call 20; refine (hE.out _).mono ?_; rintro e w7 ⟨rfl, hB7⟩; have c7 : w7.cell? ⟨D, 2, none⟩ = some (.slice none 0 0) := cellAt ((hB7.block _ (Array.getElem?_eq_some_iff.1 k6H.out).1).trans k6H.out) 2; have hB7H := hide (hB6H.out.trans (hB7.mono (by rw [hBH.out]; exact hB6H.out.size))); clear hB7))
        go_ret
        exact ⟨rfl, hB7H.out⟩
      · rw [hdt] at hD
        obtain ⟨e1, hv0⟩ := RW.decT_take hdt
        have hll := hide (show ls.length ≤ 1200 from (RW.valB_facts hv0).2.2)
        have hE := hide (fun W v (hv : LnsV W v ls) => encode_any p q' v ls (by have := hll.out; omega) W hv)
        rw [show RW.encRes (p, q', ls) = .tuple #[.string s, .int .i64 0] by unfold RW.encRes; rw [if_pos hv0, RW.arr_of e1]] at hE
        clear hdt e1 hv0
        go_upto_region 17 with (go_at_call 22; refine (hD.out _).mono ?_; rintro e w5 ⟨⟨v5, rfl, hL5⟩, hB5⟩; obtain ⟨a5, c5, e5⟩ := lnl_block hL5; subst e5; have hL5H := hide hL5; have hB5H := hide hB5; clear hL5 hB5)
        obtain ⟨D, hDe⟩ : ∃ D, D = w5.heap.size := ⟨_, rfl⟩
        have hS5 := hide (show (w5.alloc (.cells #[.int .i64 p, .int .i64 q', .slice a5 ls.length c5] 39)).heap[D]? = some (.cells #[.int .i64 p, .int .i64 q', .slice a5 ls.length c5] 39 (0, 0)) ∧ Below B w (w5.alloc (.cells #[.int .i64 p, .int .i64 q', .slice a5 ls.length c5] 39)) ∧ LnsV (w5.alloc (.cells #[.int .i64 p, .int .i64 q', .slice a5 ls.length c5] 39)) (.slice a5 ls.length c5) ls from by
          have h4 := alloc_bel (Below.refl w5.heap.size w5) (Nat.le_refl _) (.cells #[.int .i64 p, .int .i64 q', .slice a5 ls.length c5] 39)
          have h5 := hBx.out.trans (hB5H.out.mono hBs.out)
          exact ⟨newAt hDe, h5.trans (h4.mono (by rw [hBH.out]; exact h5.size)), (LnsO.next hL5H.out h4).row⟩)
        rw [← hDe]
        refine gen_w (fun W => W.heap[D]? = some (.cells #[.int .i64 p, .int .i64 q', .slice a5 ls.length c5] 39 (0, 0)) ∧ Below B w W ∧ LnsV W (.slice a5 ls.length c5) ls) hS5.out ?_
        clear hS5 hDe hB5H hD hL5H
        rintro w6 ⟨k6, hB6, hl6'⟩
        have hl6 := hide hl6'
        clear hl6'
        have hB6H := hide hB6
        have c2 : w6.cell? ⟨D, 2, none⟩ = some (.slice a5 ls.length c5) := cellAt k6 2
        have k6H := hide k6
        have his := st_size (p, q', .slice a5 ls.length c5)
        clear hB6
        go_wp2_with (first
          | (refine wpList_load_row rfl 39 (.tmp 24) rfl D rfl 39 _ (0, 0) _ k6 Try.underlying39 rfl his ?_)
          | (go_at_call 20; refine (hE.out _ _ hl6.out).mono ?_; rintro e w7 ⟨rfl, hB7⟩; have c7 : w7.cell? ⟨D, 2, none⟩ = some (.slice a5 ls.length c5) := cellAt ((hB7.block _ (Array.getElem?_eq_some_iff.1 k6H.out).1).trans k6H.out) 2; have hB7H := hide (hB6H.out.trans (hB7.mono (by rw [hBH.out]; exact hB6H.out.size))); clear hB7))
        go_ret
        exact ⟨rfl, hB7H.out⟩
end Go.Proofs.Ytillplhadimgmaa

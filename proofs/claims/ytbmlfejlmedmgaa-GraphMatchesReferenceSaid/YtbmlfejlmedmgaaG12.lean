/-
  Package royaltylaw10: GraphAdd: it returns true; only new memory is written.
-/
import Derived.Test.YtbmlfejlmedmgaaG11
import Derived.Test.YtbmlfejlmedmgaaGP1
namespace Go.Proofs.Ytbmlfejlmedmgaa
open Go.RowKit RG
theorem EdA.row {W : World} {g : Nat} {f : RW.Ed} (h : EdA W g f) : RowV 2 RW.edl W (.slice (some ⟨g, 0, none⟩) 1 1) [f] :=
  ⟨_, _, rfl, Nat.le_refl _, .inr ⟨g, 0, rfl, h.lt, fun i x hx j u hj => by
    rcases i with _ | i
    · simp at hx
      subst hx
      rw [Nat.zero_mul, Nat.zero_add, cellAt h]
      rcases j with _ | _ | j
      · exact hj
      · exact hj
      · simp [RW.edl] at hj
    · simp at hx⟩⟩
theorem EdA.next {W W' : World} {g : Nat} {f : RW.Ed} (h : EdA W g f) (hB : Below W.heap.size W W') : EdA W' g f := (hB.block _ h.lt).trans h
theorem op_mt {ev : Operand → Value} {o : Oper} {w : World} (ho : o.op = .buildSlice 22 0 #[]) : (execOp ev o).run Try.prog w = .ok (.value (.slice (some ⟨w.heap.size, 0, none⟩) 0 0)) (w.alloc (.cells #[] 38)) := by
  unfold execOp
  rw [ho]
  go_simp
theorem op_bs_e {ev : Operand → Value} {o : Oper} {x : Operand} {w : World} {m n : Int} (ho : o.op = .buildSlice 22 1 #[(0, x)]) (hx : ev x = .agg #[.int .i64 m, .int .i64 n]) : (execOp ev o).run Try.prog w = .ok (.value (.slice (some ⟨w.heap.size, 0, none⟩) 1 1)) (w.alloc (.cells #[.int .i64 m, .int .i64 n] 38)) := by
  unfold execOp
  rw [ho]
  go_simp
/-- the state of GraphAdd behind its sixth region -/
structure GA (W : World) (B : Nat) (w : World) (ve va : Value) (E L : List RW.Ed) (fb : Nat) (f : RW.Ed) : Prop where
  r1 : RowV 2 RW.edl W ve E
  r2 : RowV 2 RW.edl W va L
  e : EdA W fb f
  b : Below B w W
  sz : B ≤ W.heap.size
theorem GA.next {W W' : World} {B : Nat} {w : World} {ve va : Value} {E L : List RW.Ed} {fb : Nat} {f : RW.Ed} (h : GA W B w ve va E L fb f) (hB : Below W.heap.size W W') : GA W' B w ve va E L fb f :=
  ⟨h.r1.next hB, h.r2.next hB, h.e.next hB, h.b.trans (hB.mono h.sz), Nat.le_trans h.sz hB.size⟩
set_option maxRecDepth 10000 in
set_option maxHeartbeats 1000000 in
theorem graphadd_any (v : Value) (l : List RW.Ed) (hl : ∀ e ∈ l, RW.i64b e.1 ∧ RW.i64b e.2) (more : RW.Ed) (hmo : RW.i64b more.1 ∧ RW.i64b more.2) (a b : Int) (ha : RW.i64b a) (hb : RW.i64b b) (w : World) (hv : RowV 2 RW.edl w v l) :
    Calls Try.prog 5 #[v, .agg (RW.edl more).toArray, .int .i64 a, .int .i64 b] w fun e w' => e = .returned (.bool true) ∧ Below w.heap.size w w' := by
  obtain ⟨a0, d0⟩ := more
  have hS := hide (fun W => sane_any W)
  have hP1 := hide (fun W => pick_any a 14 ha.1 ha.2 (by decide) (by decide) W)
  have hP2 := hide (fun W => pick_any b 14 hb.1 hb.2 (by decide) (by decide) W)
  have hF1 := hide (fun W (hW : RowV 2 RW.edl W v l) => few_any v l false hl W hW)
  have hF2 := hide (fun W => few_any (.slice (some ⟨W.heap.size, 0, none⟩) 1 1) [(a0, d0)] false (fun e he => by rw [List.mem_singleton] at he; rw [he]; exact hmo) (W.alloc (.cells #[.int .i64 a0, .int .i64 d0] 38)) (rows_lit (k := 2) (enc := RW.edl) W 38 (fun _ => rfl) [(a0, d0)]))
  obtain ⟨E, hE⟩ : ∃ E, E = RW.fewL false l := ⟨_, rfl⟩
  have hEl := hide (show E.length ≤ 50 by rw [hE]; exact RW.fewL_len _ _)
  have hEp := hide (show ∀ e ∈ E, 0 ≤ e.1 by rw [hE]; exact fun e he => (RW.fewL_small l e he).1.1)
  obtain ⟨⟨fa, fd⟩, hf⟩ : ∃ f : RW.Ed, f = (RW.pickI a0 14, RW.pickI d0 12) := ⟨_, rfl⟩
  have hf1 : RW.fewL false [(a0, d0)] = [(fa, fd)] := by rw [hf]; rfl
  obtain ⟨x, hx⟩ : ∃ x, x = RW.pickI a 14 := ⟨_, rfl⟩
  obtain ⟨y, hy⟩ : ∃ x, x = RW.pickI b 14 := ⟨_, rfl⟩
  rw [← hE] at hF1
  rw [hf1] at hF2
  rw [← hx] at hP1
  rw [← hy] at hP2
  have hvH := hide hv
  obtain ⟨av, cv, hvf, _, _⟩ := hv
  subst hvf
  obtain ⟨nl, hnl⟩ : ∃ n, n = l.length := ⟨_, rfl⟩
  rw [← hnl] at hF1 hvH ⊢
  obtain ⟨B, hB⟩ : ∃ B, B = w.heap.size := ⟨_, rfl⟩
  have hBH := hide hB
  clear ha hb hmo hl hE hf hf1 hx hy hnl
  show Calls Try.prog 5 #[.slice av nl cv, .agg #[.int .i64 a0, .int .i64 d0], .int .i64 a, .int .i64 b] w _
  go_enter Try.func5, Try.ntmps5
  go_upto_region 1 with fail
  refine gen_w (fun W => EdA W w.heap.size (a0, d0) ∧ RowV 2 RW.edl W (.slice av nl cv) l ∧ Below w.heap.size w W) ⟨alloc_at1 _ _, hvH.out.next (alloc_bel (Below.refl _ _) (Nat.le_refl _) _), alloc_bel (Below.refl _ _) (Nat.le_refl _) _⟩ ?_
  rw [← hB]
  obtain ⟨b5, hb5⟩ : ∃ b, b = B := ⟨_, rfl⟩
  rintro w1 ⟨h1, h2, h3⟩
  have g1 := hide (show EdA w1 b5 (a0, d0) from hb5 ▸ h1)
  have g2 := hide h2
  have g3 := hide h3
  have hsz := hide (fun W (h : Below B w W) => (show B ≤ W.heap.size by rw [hB]; exact hB ▸ h.size))
  rw [show (B : Nat) = b5 from hb5.symm]
  clear h1 h2 h3 hb5 hvH hB
  go_upto_region 2 with (go_at_call 8; refine (hS.out _).mono ?_; rintro e w2 ⟨rfl, q⟩; have k1 := hide (g1.out.next q); have k2 := hide (g2.out.next q); have k3 := hide (g3.out.trans (q.mono (hsz.out _ g3.out))); clear q)
  clear g1 g2 g3
  go_upto_region 3 with (go_at_call 9; refine (hF1.out _ k2.out).mono ?_; rintro e w3 ⟨ve, rfl, q1, q⟩; have g1 := hide (k1.out.next q); have g2 := hide q1; have g3 := hide (k3.out.trans (q.mono (hsz.out _ k3.out))); clear q q1)
  obtain ⟨ae, ce, hve⟩ := g2.out.form
  subst hve
  obtain ⟨ne, hne⟩ : ∃ n, n = E.length := ⟨_, rfl⟩
  have hneH := hide hne
  have gr := hide g2.out.row
  rw [← hne] at gr
  rw [← hne]
  clear hne k1 k2 k3 g2
  have c0 : w3.cell? ⟨b5, 0, none⟩ = some (.int .i64 a0) := g1.out.c0
  have c1 : w3.cell? ⟨b5, 1, none⟩ = some (.int .i64 d0) := g1.out.c1
  go_upto_region 4 with (go_at_call 9; refine (hF2.out _).mono ?_; rintro e w4 ⟨vf, rfl, q1, q⟩; have q4 := alloc_bel (Below.refl w3.heap.size w3) (Nat.le_refl _) (.cells #[.int .i64 a0, .int .i64 d0] 38); have q5 := q4.trans (q.mono q4.size); have kr := hide (gr.out.next q5); have k3 := hide (g3.out.trans (q5.mono (hsz.out _ g3.out))); obtain ⟨b2, o2, c2, hvf, _, _, hcc⟩ := q1.row.at (by simp); have f0 : w4.cell? ⟨b2, o2, none⟩ = some (.int .i64 fa) := hcc 0 (fa, fd) rfl 0 _ rfl; have f1 : w4.cell? ⟨b2, o2 + 1, none⟩ = some (.int .i64 fd) := (by have := hcc 0 (fa, fd) rfl 1 _ rfl; rw [Nat.zero_mul, Nat.add_zero] at this; exact this); rw [show [(fa, fd)].length = 1 from rfl] at hvf; subst hvf; clear q q1 q4 q5 hcc)
  go_upto_region 5 with (go_at_call 10; refine (hP1.out _).mono ?_; rintro e w' ⟨rfl, rfl⟩)
  go_upto_region 6 with (go_at_call 10; refine (hP2.out _).mono ?_; rintro e w' ⟨rfl, rfl⟩)
  refine gen_w (fun W => EdA W w4.heap.size (fa, fd) ∧ RowV 2 RW.edl W (.slice ae ne ce) E ∧ Below B w W) ⟨alloc_at1 _ _, kr.out.next (alloc_bel (Below.refl _ _) (Nat.le_refl _) _), k3.out.trans (alloc_bel (Below.refl B w4) (hsz.out _ k3.out) _)⟩ ?_
  obtain ⟨fb, hfb⟩ : ∃ b, b = w4.heap.size := ⟨_, rfl⟩
  rw [← hfb]
  clear hfb kr k3 f0 f1 c0 c1 g1 gr g3
  rintro w6 ⟨h1, h2, h3⟩
  have g1 := hide h1
  have g2 := hide h2
  have g3 := hide h3
  obtain ⟨B6, hB6⟩ : ∃ b, b = w6.heap.size := ⟨_, rfl⟩
  have hB6H := hide hB6
  have hn1 := hide (fun W (h : Below B6 w6 W) => h1.next (hB6 ▸ h))
  have hn2 := hide (fun W (h : Below B6 w6 W) => h2.next (hB6 ▸ h))
  have hn3 := hide (fun W (h : Below B6 w6 W) => (show B6 ≤ W.heap.size by rw [hB6]; exact (hB6 ▸ h).size))
  have hEl2 : E.length ≤ 10000 := by have := hEl.out; omega
  clear h1 h2 h3 hB6
  go_cut [14] (fun s wx => GA wx B w (.slice ae ne ce) s E (E ++ [(fa, fd)]) fb (fa, fd))
  case first =>
    refine wp_region_k (fun _ W => Below B6 w6 W) (fun W => Below B6 w6 W) [0, 2, 4, 5] (.op 1 (.op 3 (.fork 0 (.fork 2 (.op 4 (.op 5 (.op 6 .nil))) 4 (.op 2 (.op 5 (.op 6 .nil)))) 4 (.op 0 (.op 2 (.op 5 (.op 6 .nil))))))) (by kernel_rfl) (by kernel_rfl) (by rfl) (by kernel_rfl) (Below.refl _ _).drew (Below.refl _ _).drew ?_
    refine k_val (.slice ae ne ce) (by apply opN; repeat' (first | apply OpAt.z | apply OpAt.s)) (by rfl) (by rfl) (fun _ W hS => op_mv rfl rfl) ?_
    simp only [Act.put, List.setIfInBounds_toArray, List.set_cons_zero, List.set_cons_succ]
    refine k_val (.agg #[.int .i64 fa, .int .i64 fd]) (by apply opN; repeat' (first | apply OpAt.z | apply OpAt.s)) (by rfl) (by rfl) (fun _ W hS => op_load_ed rfl rfl (hn1.out W hS).c0 (hn1.out W hS).c1) ?_
    simp only [Act.put, List.setIfInBounds_toArray, List.set_cons_zero, List.set_cons_succ]
    refine h_fork ?_ ?_
    · refine k_one (fun K' u => ∃ g0, u = Value.slice (some ⟨g0, 0, none⟩) 0 0 ∧ K' = fun W => Below B6 w6 W ∧ EdsO W B6 (Value.slice (some ⟨g0, 0, none⟩) 0 0) []) (by apply opN; repeat' (first | apply OpAt.z | apply OpAt.s)) (by rfl) (by rfl) (by rfl) (fun W hC hK => ?_) ?_
      · have hb := hK
        have hA := alloc_bel hb (by have := hn3.out _ (Below.refl B6 w6); omega) (.cells #[] 38)
        have hz : EdsO (W.alloc (.cells #[] 38)) B6 (.slice (some ⟨W.heap.size, 0, none⟩) 0 0) [] := ⟨rfl, .inr ⟨W.heap.size, 0, #[], rfl, hn3.out _ hb, alloc_at1 _ _, Nat.le_refl _, by unfold maxLen; omega, rfl, rfl⟩⟩
        exact xup_val (op_mt rfl) ⟨hA, _, ⟨hA, hz⟩, _, rfl, rfl⟩
      rintro _ _ ⟨g0, rfl, rfl⟩
      simp only [Act.put, List.setIfInBounds_toArray, List.set_cons_zero, List.set_cons_succ]
      refine h_fork ?_ ?_
      · refine k_one (fun K' u => ∃ v2, u = v2 ∧ K' = fun W => Below B6 w6 W ∧ EdsO W B6 v2 E) (by apply opN; repeat' (first | apply OpAt.z | apply OpAt.s)) (by rfl) (by rfl) (by rfl) (fun W hC hK => ?_) ?_
        · have hb := hK.1
          have ho := hK.2
          obtain ⟨v2, W2, hrun, ho2, hb2, hc2, hv2⟩ := EdsO.appRow ho (hn2.out W hb) (by simp) hEl2 (hn3.out W hb)
          rw [List.nil_append] at ho2
          exact xup_val (op_app rfl rfl rfl hrun) ⟨hb.trans hb2, _, ⟨hb.trans hb2, ho2⟩, _, rfl, rfl⟩
        rintro _ v2 ⟨_, rfl, rfl⟩
        simp only [Act.put, List.setIfInBounds_toArray, List.set_cons_zero, List.set_cons_succ]
        refine k_step (fun K' u => ∃ g4, u = .slice (some ⟨g4, 0, none⟩) 1 1 ∧ K' = fun W => Below B6 w6 W ∧ EdsO W B6 v2 E ∧ EdA W g4 (fa, fd) ∧ (∀ g, v2.ownBlock = some g → g ≠ g4)) (by apply opN; repeat' (first | apply OpAt.z | apply OpAt.s)) (by rfl) (by rfl) (by rfl) (fun W hC hK => ?_) ?_
        · have hb := hK.1
          have hA := alloc_bel hb (by have := hn3.out _ (Below.refl B6 w6); omega) (.cells #[.int .i64 fa, .int .i64 fd] 38)
          have ho := hK.2
          exact xup_val (op_bs_e rfl rfl) ⟨hA, _, ⟨hA, ho.next (alloc_bel (Below.refl _ _) (Nat.le_refl _) _), alloc_at1 _ _, fun g hg e => by have := (own_block ho hg).2.1; omega⟩, _, rfl, rfl⟩
        rintro _ _ ⟨g4, rfl, rfl⟩
        simp only [Act.put, List.setIfInBounds_toArray, List.set_cons_zero, List.set_cons_succ]
        refine k_step (fun K' u => ∃ v5, u = v5 ∧ K' = fun W => Below B6 w6 W ∧ EdsO W B6 v5 (E ++ [(fa, fd)])) (by apply opN; repeat' (first | apply OpAt.z | apply OpAt.s)) (by rfl) (by rfl) (by rfl) (fun W hC hK => ?_) ?_
        · have hb := hK.1
          have ho := hK.2.1
          have he := hK.2.2.1
          obtain ⟨v5, W5, hrun, ho5, hb5, hc5, hv5⟩ := EdsO.appRow ho he.row hEl2 (by simp) (hn3.out W hb)
          exact xup_val (op_app rfl rfl rfl hrun) ⟨hb.trans hb5, _, ⟨hb.trans hb5, ho5⟩, _, rfl, rfl⟩
        rintro _ v5 ⟨_, rfl, rfl⟩
        simp only [Act.put, List.setIfInBounds_toArray, List.set_cons_zero, List.set_cons_succ]
        refine k_val v5 (by apply opN; repeat' (first | apply OpAt.z | apply OpAt.s)) (by rfl) (by rfl) (fun _ W hS => op_asg rfl rfl) ?_
        simp only [Act.put, List.setIfInBounds_toArray, List.set_cons_zero, List.set_cons_succ]
        refine k_nil ?_
        intro W hC hK
        have hG := hide (show GA W B w (.slice ae ne ce) v5 E (E ++ [(fa, fd)]) fb (fa, fd) from ⟨hn2.out W hK.1, hK.2.row, hn1.out W hK.1, g3.out.trans (hK.1.mono (by have := hsz.out _ g3.out; rw [hB6H.out]; exact this)), by have := hn3.out W hK.1; have := hsz.out _ g3.out; rw [← hB6H.out] at this; omega⟩)
        clear hC hK
        go_wp2
        all_goals go_meet
        all_goals exact hG.out
      · refine k_one (fun K' u => ∃ g4, u = .slice (some ⟨g4, 0, none⟩) 1 1 ∧ K' = fun W => Below B6 w6 W ∧ EdsO W B6 (Value.slice (some ⟨g0, 0, none⟩) 0 0) [] ∧ EdA W g4 (fa, fd) ∧ (∀ g, (Value.slice (some ⟨g0, 0, none⟩) 0 0).ownBlock = some g → g ≠ g4)) (by apply opN; repeat' (first | apply OpAt.z | apply OpAt.s)) (by rfl) (by rfl) (by rfl) (fun W hC hK => ?_) ?_
        · have hb := hK.1
          have hA := alloc_bel hb (by have := hn3.out _ (Below.refl B6 w6); omega) (.cells #[.int .i64 fa, .int .i64 fd] 38)
          have ho := hK.2
          exact xup_val (op_bs_e rfl rfl) ⟨hA, _, ⟨hA, ho.next (alloc_bel (Below.refl _ _) (Nat.le_refl _) _), alloc_at1 _ _, fun g hg e => by have := (own_block ho hg).2.1; omega⟩, _, rfl, rfl⟩
        rintro _ _ ⟨g4, rfl, rfl⟩
        simp only [Act.put, List.setIfInBounds_toArray, List.set_cons_zero, List.set_cons_succ]
        refine k_step (fun K' u => ∃ v2, u = v2 ∧ K' = fun W => Below B6 w6 W ∧ EdsO W B6 v2 E ∧ EdA W g4 (fa, fd) ∧ (∀ g, v2.ownBlock = some g → g ≠ g4)) (by apply opN; repeat' (first | apply OpAt.z | apply OpAt.s)) (by rfl) (by rfl) (by rfl) (fun W hC hK => ?_) ?_
        · have hb := hK.1
          have ho := hK.2.1
          obtain ⟨v2, W2, hrun, ho2, hb2, hc2, hv2⟩ := EdsO.appRow ho (hn2.out W hb) (by simp) hEl2 (hn3.out W hb)
          rw [List.nil_append] at ho2
          have he := hK.2.2.1
          have hq := hK.2.2.2
          exact xup_val (op_app rfl rfl rfl hrun) ⟨hb.trans hb2, _, ⟨hb.trans hb2, ho2, he.chg hc2 (fun e => hq _ e rfl), fun g hg e => by
            rcases hv2 with h | h
            · exact hq g (h ▸ hg) e
            · rw [h] at hg; cases hg; have := he.lt; omega⟩, _, rfl, rfl⟩
        rintro _ v2 ⟨_, rfl, rfl⟩
        simp only [Act.put, List.setIfInBounds_toArray, List.set_cons_zero, List.set_cons_succ]
        refine k_step (fun K' u => ∃ v5, u = v5 ∧ K' = fun W => Below B6 w6 W ∧ EdsO W B6 v5 (E ++ [(fa, fd)])) (by apply opN; repeat' (first | apply OpAt.z | apply OpAt.s)) (by rfl) (by rfl) (by rfl) (fun W hC hK => ?_) ?_
        · have hb := hK.1
          have ho := hK.2.1
          have he := hK.2.2.1
          obtain ⟨v5, W5, hrun, ho5, hb5, hc5, hv5⟩ := EdsO.appRow ho he.row hEl2 (by simp) (hn3.out W hb)
          exact xup_val (op_app rfl rfl rfl hrun) ⟨hb.trans hb5, _, ⟨hb.trans hb5, ho5⟩, _, rfl, rfl⟩
        rintro _ v5 ⟨_, rfl, rfl⟩
        simp only [Act.put, List.setIfInBounds_toArray, List.set_cons_zero, List.set_cons_succ]
        refine k_val v5 (by apply opN; repeat' (first | apply OpAt.z | apply OpAt.s)) (by rfl) (by rfl) (fun _ W hS => op_asg rfl rfl) ?_
        simp only [Act.put, List.setIfInBounds_toArray, List.set_cons_zero, List.set_cons_succ]
        refine k_nil ?_
        intro W hC hK
        have hG := hide (show GA W B w (.slice ae ne ce) v5 E (E ++ [(fa, fd)]) fb (fa, fd) from ⟨hn2.out W hK.1, hK.2.row, hn1.out W hK.1, g3.out.trans (hK.1.mono (by have := hsz.out _ g3.out; rw [hB6H.out]; exact this)), by have := hn3.out W hK.1; have := hsz.out _ g3.out; rw [← hB6H.out] at this; omega⟩)
        clear hC hK
        go_wp2
        all_goals go_meet
        all_goals exact hG.out
    · refine k_one (fun K' u => ∃ g4, u = .slice (some ⟨g4, 0, none⟩) 1 1 ∧ K' = fun W => Below B6 w6 W ∧ EdA W g4 (fa, fd)) (by apply opN; repeat' (first | apply OpAt.z | apply OpAt.s)) (by rfl) (by rfl) (by rfl) (fun W hC hK => ?_) ?_
      · have hb := hK
        have hA := alloc_bel hb (by have := hn3.out _ (Below.refl B6 w6); omega) (.cells #[.int .i64 fa, .int .i64 fd] 38)
        exact xup_val (op_bs_e rfl rfl) ⟨hA, _, ⟨hA, alloc_at1 _ _⟩, _, rfl, rfl⟩
      rintro _ _ ⟨g4, rfl, rfl⟩
      simp only [Act.put, List.setIfInBounds_toArray, List.set_cons_zero, List.set_cons_succ]
      refine k_step (fun K' u => ∃ g0, u = Value.slice (some ⟨g0, 0, none⟩) 0 0 ∧ K' = fun W => Below B6 w6 W ∧ EdsO W B6 (Value.slice (some ⟨g0, 0, none⟩) 0 0) [] ∧ EdA W g4 (fa, fd) ∧ (∀ g, (Value.slice (some ⟨g0, 0, none⟩) 0 0).ownBlock = some g → g ≠ g4)) (by apply opN; repeat' (first | apply OpAt.z | apply OpAt.s)) (by rfl) (by rfl) (by rfl) (fun W hC hK => ?_) ?_
      · have hb := hK.1
        have hA := alloc_bel hb (by have := hn3.out _ (Below.refl B6 w6); omega) (.cells #[] 38)
        have hz : EdsO (W.alloc (.cells #[] 38)) B6 (.slice (some ⟨W.heap.size, 0, none⟩) 0 0) [] := ⟨rfl, .inr ⟨W.heap.size, 0, #[], rfl, hn3.out _ hb, alloc_at1 _ _, Nat.le_refl _, by unfold maxLen; omega, rfl, rfl⟩⟩
        have he := hK.2
        exact xup_val (op_mt rfl) ⟨hA, _, ⟨hA, hz, he.next (alloc_bel (Below.refl _ _) (Nat.le_refl _) _), fun g hg e => by have h1 : some W.heap.size = some g := hg; injection h1 with h1; have := he.lt; omega⟩, _, rfl, rfl⟩
      rintro _ _ ⟨g0, rfl, rfl⟩
      simp only [Act.put, List.setIfInBounds_toArray, List.set_cons_zero, List.set_cons_succ]
      refine k_step (fun K' u => ∃ v2, u = v2 ∧ K' = fun W => Below B6 w6 W ∧ EdsO W B6 v2 E ∧ EdA W g4 (fa, fd) ∧ (∀ g, v2.ownBlock = some g → g ≠ g4)) (by apply opN; repeat' (first | apply OpAt.z | apply OpAt.s)) (by rfl) (by rfl) (by rfl) (fun W hC hK => ?_) ?_
      · have hb := hK.1
        have ho := hK.2.1
        obtain ⟨v2, W2, hrun, ho2, hb2, hc2, hv2⟩ := EdsO.appRow ho (hn2.out W hb) (by simp) hEl2 (hn3.out W hb)
        rw [List.nil_append] at ho2
        have he := hK.2.2.1
        have hq := hK.2.2.2
        exact xup_val (op_app rfl rfl rfl hrun) ⟨hb.trans hb2, _, ⟨hb.trans hb2, ho2, he.chg hc2 (fun e => hq _ e rfl), fun g hg e => by
          rcases hv2 with h | h
          · exact hq g (h ▸ hg) e
          · rw [h] at hg; cases hg; have := he.lt; omega⟩, _, rfl, rfl⟩
      rintro _ v2 ⟨_, rfl, rfl⟩
      simp only [Act.put, List.setIfInBounds_toArray, List.set_cons_zero, List.set_cons_succ]
      refine k_step (fun K' u => ∃ v5, u = v5 ∧ K' = fun W => Below B6 w6 W ∧ EdsO W B6 v5 (E ++ [(fa, fd)])) (by apply opN; repeat' (first | apply OpAt.z | apply OpAt.s)) (by rfl) (by rfl) (by rfl) (fun W hC hK => ?_) ?_
      · have hb := hK.1
        have ho := hK.2.1
        have he := hK.2.2.1
        obtain ⟨v5, W5, hrun, ho5, hb5, hc5, hv5⟩ := EdsO.appRow ho he.row hEl2 (by simp) (hn3.out W hb)
        exact xup_val (op_app rfl rfl rfl hrun) ⟨hb.trans hb5, _, ⟨hb.trans hb5, ho5⟩, _, rfl, rfl⟩
      rintro _ v5 ⟨_, rfl, rfl⟩
      simp only [Act.put, List.setIfInBounds_toArray, List.set_cons_zero, List.set_cons_succ]
      refine k_val v5 (by apply opN; repeat' (first | apply OpAt.z | apply OpAt.s)) (by rfl) (by rfl) (fun _ W hS => op_asg rfl rfl) ?_
      simp only [Act.put, List.setIfInBounds_toArray, List.set_cons_zero, List.set_cons_succ]
      refine k_nil ?_
      intro W hC hK
      have hG := hide (show GA W B w (.slice ae ne ce) v5 E (E ++ [(fa, fd)]) fb (fa, fd) from ⟨hn2.out W hK.1, hK.2.row, hn1.out W hK.1, g3.out.trans (hK.1.mono (by have := hsz.out _ g3.out; rw [hB6H.out]; exact this)), by have := hn3.out W hK.1; have := hsz.out _ g3.out; rw [← hB6H.out] at this; omega⟩)
      clear hC hK
      go_wp2
      all_goals go_meet
      all_goals exact hG.out
  case rest =>
  have hG := hide hcut
  obtain ⟨va, hva⟩ : ∃ v, v = u14 := ⟨_, rfl⟩
  subst hva
  clear hcut hn1 hn2 hn3 g1 g2 g3 hF1 hF2 hP1 hP2 hS hB6H hEl2 B6 w6
  have hJn := hide (fun a b W (hW : RowV 2 RW.edl W (.slice ae ne ce) E) => joined_any (.slice ae ne ce) E a b (by have := hEl.out; omega) W hW)
  have hJa := hide (fun W (hW : RowV 2 RW.edl W va (E ++ [(fa, fd)])) => joined_any va (E ++ [(fa, fd)]) x y (by rw [List.length_append]; have := hEl.out; simp; omega) W hW)
  go_upto_region 8 with fail
  have hne50 : ne ≤ 50 := by rw [hneH.out]; exact hEl.out
  go_wp2
  go_loopw [15, 16] (fun o i wr => ∃ j : Nat, i = .int .i64 j ∧ j ≤ ne ∧ o = .int .i64 (RW.owner (E.take j) fd) ∧ Hid (GA wr B w (.slice ae ne ce) va E (E ++ [(fa, fd)]) fb (fa, fd))) (fun _ i _ => ne - (intOf i).toNat)
  case atStart => exact ⟨0, rfl, Nat.zero_le _, rfl, hG.out⟩
  case round =>
    obtain ⟨j, rfl, hj, rfl, hQ⟩ := hrel
    clear hG
    obtain ⟨wo, hwo⟩ : ∃ wo, wo = wr := ⟨_, rfl⟩
    subst hwo
    by_cases hjm : j < ne
    · obtain ⟨⟨ac, dv⟩, hx⟩ : ∃ x, E[j]? = some x := ⟨_, List.getElem?_eq_getElem (by rw [← hneH.out]; exact hjm)⟩
      have hr := hQ.out.r1
      obtain ⟨a0', c0', he0, _, hrow⟩ := hr
      injection he0 with q1 q2 q3
      subst q1
      subst q3
      clear q2
      obtain ⟨bq, oq, rfl, hbq, hcq⟩ := hrow.resolve_left (by rintro h; rw [h] at hx; simp at hx)
      have e0 : wo.cell? ⟨bq, oq + j * 2, none⟩ = some (.int .i64 ac) := hcq j (ac, dv) hx 0 _ rfl
      have e1 : wo.cell? ⟨bq, oq + j * 2 + 1, none⟩ = some (.int .i64 dv) := hcq j (ac, dv) hx 1 _ rfl
      have e2 : wo.cell? ⟨fb, 1, none⟩ = some (.int .i64 fd) := hQ.out.e.c1
      have how := hide (show RW.owner (E.take (j + 1)) fd = if dv = fd then ac else RW.owner (E.take j) fd by rw [List.take_add_one, hx]; exact RW.owner_snoc _ _ _)
      obtain ⟨oj, hoj⟩ : ∃ o, o = RW.owner (E.take j) fd := ⟨_, rfl⟩
      rw [← hoj] at how
      rw [← hoj]
      clear hx hrow hbq hcq hoj
      by_cases hd : dv = fd
      · rw [if_pos hd] at how
        have hdH := hide hd
        go_wp2
        go_quiet (fail)
        go_wp2
        go_roundw
        case rel => exact ⟨j + 1, by go_num, by omega, by rw [how.out], hQ.out.next ⟨rfl, rfl, rfl, Nat.le_refl _, fun _ _ => rfl⟩⟩
        case measure => simp [intOf]; omega
      · rw [if_neg hd] at how
        go_wp2
        go_quiet (fail)
        go_wp2
        go_roundw
        case rel => exact ⟨j + 1, by go_num, by omega, by rw [how.out], hQ.out.next ⟨rfl, rfl, rfl, Nat.le_refl _, fun _ _ => rfl⟩⟩
        case measure => simp [intOf]; omega
    · obtain rfl : j = ne := by omega
      have htl : E.take j = E := List.take_of_length_le (by rw [← hneH.out]; exact Nat.le_refl _)
      rw [htl]
      have hwant := hide (RW.joined_add E (fa, fd) x y hEp.out)
      have hwd := hide (show RW.wantA E (fa, fd) x y = if 0 ≤ RW.owner E fd then RW.jn E x y || (RW.jn E x fa && RW.jn E y (RW.owner E fd)) || (RW.jn E y fa && RW.jn E x (RW.owner E fd)) else RW.jn E x y from rfl)
      obtain ⟨ow, how⟩ : ∃ o, o = RW.owner E fd := ⟨_, rfl⟩
      obtain ⟨j1, hj1⟩ : ∃ b, RW.jn E x y = b := ⟨_, rfl⟩
      obtain ⟨j2, hj2⟩ : ∃ b, RW.jn E x fa = b := ⟨_, rfl⟩
      obtain ⟨j3, hj3⟩ : ∃ b, RW.jn E y ow = b := ⟨_, rfl⟩
      obtain ⟨j4, hj4⟩ : ∃ b, RW.jn E y fa = b := ⟨_, rfl⟩
      obtain ⟨j5, hj5⟩ : ∃ b, RW.jn E x ow = b := ⟨_, rfl⟩
      rw [← how, hj1, hj2, hj3, hj4, hj5] at hwd
      rw [← how]
      obtain ⟨wn, hwn⟩ : ∃ b, b = RW.wantA E (fa, fd) x y := ⟨_, rfl⟩
      rw [← hwn] at hwd hwant
      have h1H := hide hj1
      have h2H := hide hj2
      have h3H := hide hj3
      have h4H := hide hj4
      have h5H := hide hj5
      have hQ' := hQ
      clear hj1 hj2 hj3 hj4 hj5 how hwn htl hQ
      go_upto_region 13 with fail
      go_upto_region 14 with (go_at_call 14; refine (hJn.out _ _ _ hQ'.out.r1).mono ?_; rintro e w9 ⟨rfl, g⟩; have hG := hide (hQ'.out.next g); clear g)
      rw [h1H.out]
      clear hQ'
      have c0 : w9.cell? ⟨fb, 0, none⟩ = some (.int .i64 fa) := hG.out.e.c0
      by_cases h0 : 0 ≤ ow
      · rw [if_pos h0] at hwd
        cases j1
        · cases j2
          · cases j4
            · go_upto_region 16 with (go_at_call 14; refine (hJn.out _ _ _ hG.out.r1).mono ?_; rintro e w9 ⟨rfl, g⟩; (first | rw [h2H.out] | rw [h3H.out] | rw [h4H.out] | rw [h5H.out]); have c0 : w9.cell? ⟨fb, 0, none⟩ = some (.int .i64 fa) := (hG.out.next g).e.c0; have hG := hide (hG.out.next g); clear g)
              have hv : wn = false := hwd.out.trans (by simp)
              have hJb := hide (hJa.out _ hG.out.r2)
              rw [hwant.out, hv] at hJb
              clear hwd hv c0
              go_wp2_with (go_at_call 14; refine hJb.out.mono ?_; rintro e w10 ⟨rfl, g⟩; have hB10 := hide (hG.out.next g); clear g)
              go_ret
              exact ⟨rfl, hBH.out ▸ hB10.out.b⟩
            · cases j5
              · go_upto_region 16 with (go_at_call 14; refine (hJn.out _ _ _ hG.out.r1).mono ?_; rintro e w9 ⟨rfl, g⟩; (first | rw [h2H.out] | rw [h3H.out] | rw [h4H.out] | rw [h5H.out]); have c0 : w9.cell? ⟨fb, 0, none⟩ = some (.int .i64 fa) := (hG.out.next g).e.c0; have hG := hide (hG.out.next g); clear g)
                have hv : wn = false := hwd.out.trans (by simp)
                have hJb := hide (hJa.out _ hG.out.r2)
                rw [hwant.out, hv] at hJb
                clear hwd hv c0
                go_wp2_with (go_at_call 14; refine hJb.out.mono ?_; rintro e w10 ⟨rfl, g⟩; have hB10 := hide (hG.out.next g); clear g)
                go_ret
                exact ⟨rfl, hBH.out ▸ hB10.out.b⟩
              · go_upto_region 16 with (go_at_call 14; refine (hJn.out _ _ _ hG.out.r1).mono ?_; rintro e w9 ⟨rfl, g⟩; (first | rw [h2H.out] | rw [h3H.out] | rw [h4H.out] | rw [h5H.out]); have c0 : w9.cell? ⟨fb, 0, none⟩ = some (.int .i64 fa) := (hG.out.next g).e.c0; have hG := hide (hG.out.next g); clear g)
                have hv : wn = true := hwd.out.trans (by simp)
                have hJb := hide (hJa.out _ hG.out.r2)
                rw [hwant.out, hv] at hJb
                clear hwd hv c0
                go_wp2_with (go_at_call 14; refine hJb.out.mono ?_; rintro e w10 ⟨rfl, g⟩; have hB10 := hide (hG.out.next g); clear g)
                go_ret
                exact ⟨rfl, hBH.out ▸ hB10.out.b⟩
          · cases j3
            · cases j4
              · go_upto_region 16 with (go_at_call 14; refine (hJn.out _ _ _ hG.out.r1).mono ?_; rintro e w9 ⟨rfl, g⟩; (first | rw [h2H.out] | rw [h3H.out] | rw [h4H.out] | rw [h5H.out]); have c0 : w9.cell? ⟨fb, 0, none⟩ = some (.int .i64 fa) := (hG.out.next g).e.c0; have hG := hide (hG.out.next g); clear g)
                have hv : wn = false := hwd.out.trans (by simp)
                have hJb := hide (hJa.out _ hG.out.r2)
                rw [hwant.out, hv] at hJb
                clear hwd hv c0
                go_wp2_with (go_at_call 14; refine hJb.out.mono ?_; rintro e w10 ⟨rfl, g⟩; have hB10 := hide (hG.out.next g); clear g)
                go_ret
                exact ⟨rfl, hBH.out ▸ hB10.out.b⟩
              · cases j5
                · go_upto_region 16 with (go_at_call 14; refine (hJn.out _ _ _ hG.out.r1).mono ?_; rintro e w9 ⟨rfl, g⟩; (first | rw [h2H.out] | rw [h3H.out] | rw [h4H.out] | rw [h5H.out]); have c0 : w9.cell? ⟨fb, 0, none⟩ = some (.int .i64 fa) := (hG.out.next g).e.c0; have hG := hide (hG.out.next g); clear g)
                  have hv : wn = false := hwd.out.trans (by simp)
                  have hJb := hide (hJa.out _ hG.out.r2)
                  rw [hwant.out, hv] at hJb
                  clear hwd hv c0
                  go_wp2_with (go_at_call 14; refine hJb.out.mono ?_; rintro e w10 ⟨rfl, g⟩; have hB10 := hide (hG.out.next g); clear g)
                  go_ret
                  exact ⟨rfl, hBH.out ▸ hB10.out.b⟩
                · go_upto_region 16 with (go_at_call 14; refine (hJn.out _ _ _ hG.out.r1).mono ?_; rintro e w9 ⟨rfl, g⟩; (first | rw [h2H.out] | rw [h3H.out] | rw [h4H.out] | rw [h5H.out]); have c0 : w9.cell? ⟨fb, 0, none⟩ = some (.int .i64 fa) := (hG.out.next g).e.c0; have hG := hide (hG.out.next g); clear g)
                  have hv : wn = true := hwd.out.trans (by simp)
                  have hJb := hide (hJa.out _ hG.out.r2)
                  rw [hwant.out, hv] at hJb
                  clear hwd hv c0
                  go_wp2_with (go_at_call 14; refine hJb.out.mono ?_; rintro e w10 ⟨rfl, g⟩; have hB10 := hide (hG.out.next g); clear g)
                  go_ret
                  exact ⟨rfl, hBH.out ▸ hB10.out.b⟩
            · go_upto_region 16 with (go_at_call 14; refine (hJn.out _ _ _ hG.out.r1).mono ?_; rintro e w9 ⟨rfl, g⟩; (first | rw [h2H.out] | rw [h3H.out] | rw [h4H.out] | rw [h5H.out]); have c0 : w9.cell? ⟨fb, 0, none⟩ = some (.int .i64 fa) := (hG.out.next g).e.c0; have hG := hide (hG.out.next g); clear g)
              have hv : wn = true := hwd.out.trans (by simp)
              have hJb := hide (hJa.out _ hG.out.r2)
              rw [hwant.out, hv] at hJb
              clear hwd hv c0
              go_wp2_with (go_at_call 14; refine hJb.out.mono ?_; rintro e w10 ⟨rfl, g⟩; have hB10 := hide (hG.out.next g); clear g)
              go_ret
              exact ⟨rfl, hBH.out ▸ hB10.out.b⟩
        · go_upto_region 16 with (go_at_call 14; refine (hJn.out _ _ _ hG.out.r1).mono ?_; rintro e w9 ⟨rfl, g⟩; (first | rw [h2H.out] | rw [h3H.out] | rw [h4H.out] | rw [h5H.out]); have c0 : w9.cell? ⟨fb, 0, none⟩ = some (.int .i64 fa) := (hG.out.next g).e.c0; have hG := hide (hG.out.next g); clear g)
          have hv : wn = true := hwd.out.trans (by simp)
          have hJb := hide (hJa.out _ hG.out.r2)
          rw [hwant.out, hv] at hJb
          clear hwd hv c0
          go_wp2_with (go_at_call 14; refine hJb.out.mono ?_; rintro e w10 ⟨rfl, g⟩; have hB10 := hide (hG.out.next g); clear g)
          go_ret
          exact ⟨rfl, hBH.out ▸ hB10.out.b⟩
      · rw [if_neg h0] at hwd
        cases j1
        · go_upto_region 16 with (go_at_call 14; refine (hJn.out _ _ _ hG.out.r1).mono ?_; rintro e w9 ⟨rfl, g⟩; (first | rw [h2H.out] | rw [h3H.out] | rw [h4H.out] | rw [h5H.out]); have c0 : w9.cell? ⟨fb, 0, none⟩ = some (.int .i64 fa) := (hG.out.next g).e.c0; have hG := hide (hG.out.next g); clear g)
          have hv : wn = false := hwd.out.trans (by simp)
          have hJb := hide (hJa.out _ hG.out.r2)
          rw [hwant.out, hv] at hJb
          clear hwd hv c0
          go_wp2_with (go_at_call 14; refine hJb.out.mono ?_; rintro e w10 ⟨rfl, g⟩; have hB10 := hide (hG.out.next g); clear g)
          go_ret
          exact ⟨rfl, hBH.out ▸ hB10.out.b⟩
        · go_upto_region 16 with (go_at_call 14; refine (hJn.out _ _ _ hG.out.r1).mono ?_; rintro e w9 ⟨rfl, g⟩; (first | rw [h2H.out] | rw [h3H.out] | rw [h4H.out] | rw [h5H.out]); have c0 : w9.cell? ⟨fb, 0, none⟩ = some (.int .i64 fa) := (hG.out.next g).e.c0; have hG := hide (hG.out.next g); clear g)
          have hv : wn = true := hwd.out.trans (by simp)
          have hJb := hide (hJa.out _ hG.out.r2)
          rw [hwant.out, hv] at hJb
          clear hwd hv c0
          go_wp2_with (go_at_call 14; refine hJb.out.mono ?_; rintro e w10 ⟨rfl, g⟩; have hB10 := hide (hG.out.next g); clear g)
          go_ret
          exact ⟨rfl, hBH.out ▸ hB10.out.b⟩
end Go.Proofs.Ytbmlfejlmedmgaa

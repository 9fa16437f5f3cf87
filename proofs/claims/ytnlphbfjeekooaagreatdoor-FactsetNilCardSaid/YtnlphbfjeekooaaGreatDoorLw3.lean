/-
  Package royaltylaw06: sane: it returns true; only new memory is written.
-/
import Derived.Test.YtnlphbfjeekooaaGreatDoorNA
import Derived.Test.YtnlphbfjeekooaaGreatDoorStg4
namespace Go.Proofs.YtnlphbfjeekooaaGreatDoor
open Go.RowKit RG
/-- two sets in memory; only new memory is written -/
structure SnW (B sb mb tb nb : Nat) (w : World) (C D : RW.Ents) (W : World) : Prop where
  s : SetAt W sb mb C
  t : SetAt W tb nb D
  b : Below B w W
  ne : mb ≠ nb
  m : B ≤ mb
  n : B ≤ nb
  z : B ≤ w.heap.size
section
variable {B sb mb tb nb : Nat} {w W W' : World} {C D C' D' : RW.Ents}
theorem SnW.next (h : SnW B sb mb tb nb w C D W) (hW : Below W.heap.size W W') : SnW B sb mb tb nb w C D W' :=
  ⟨h.s.next hW, h.t.next hW, h.b.trans (hW.mono (Nat.le_trans h.z h.b.size)), h.ne, h.m, h.n, h.z⟩
theorem SnW.chS (h : SnW B sb mb tb nb w C D W) (h1 : SetAt W' sb mb C') (h2 : ChgS (fun j => j = mb) W W') : SnW B sb mb tb nb w C' D W' :=
  ⟨h1, h.t.chg h2 (h.s.nem h.t.row) (fun e => h.ne e.symm), h.b.trans (h2.belowJ (fun k e => by rw [e]; exact h.m) (Nat.le_trans h.z h.b.size)), h.ne, h.m, h.n, h.z⟩
theorem SnW.chT (h : SnW B sb mb tb nb w C D W) (h1 : SetAt W' tb nb D') (h2 : ChgS (fun j => j = nb) W W') : SnW B sb mb tb nb w C D' W' :=
  ⟨h.s.chg h2 (h.t.nem h.s.row) h.ne, h1, h.b.trans (h2.belowJ (fun k e => by rw [e]; exact h.n) (Nat.le_trans h.z h.b.size)), h.ne, h.m, h.n, h.z⟩
end
theorem x_ne {k : ByteArray} (h : k.size = 32) : RW.sX ≠ k := fun e => by rw [← e] at h; cases h
theorem sz_two {ka kb : ByteArray} {va vb : Value} (h1 : ka.size = 32) (h2 : kb.size = 32) : ∀ x ∈ [(ka, va), (kb, vb)], x.1.size ≤ 1000000 := by
  intro x hx
  simp only [List.mem_cons, List.not_mem_nil, or_false] at hx
  rcases hx with rfl | rfl
  · rw [h1]; decide
  · rw [h2]; decide
theorem sz_two2 {ka kb : ByteArray} (h1 : ka.size = 32) (h2 : kb.size = 32) : ∀ x ∈ [ka, kb], x.size ≤ 1000000 := by
  intro x hx
  simp only [List.mem_cons, List.not_mem_nil, or_false] at hx
  rcases hx with rfl | rfl
  · rw [h1]; decide
  · rw [h2]; decide
theorem fa_fact {b : Nat} (W : World) : (Instr.fieldAt 38 (.pointer (some ⟨b, 0, none⟩)) 0).run Tryz.prog W = .ok (.pointer (some ⟨b, 0, none⟩)) W := by
  go_simp
theorem int_ldS {W : World} {g i : Nat} {n : Int} (h : W.cell? ⟨g, i, none⟩ = some (.int .i64 n)) : (ldRow 3 (.pointer (some ⟨g, i, none⟩))).run Tryz.prog W = .ok (.int .i64 n) W := by
  unfold ldRow
  go_simp
theorem cf_lenF : ∀ args w, (callFunc 23 args).run Tryz.prog w = .ok (.enter 23 args) w := fun args w => by go_simp
theorem cf_ssF : ∀ args w, (callFunc 15 args).run Tryz.prog w = .ok (.enter 15 args) w := fun args w => by go_simp
theorem cf_rootF : ∀ args w, (callFunc 16 args).run Tryz.prog w = .ok (.enter 16 args) w := fun args w => by go_simp
theorem cf_drF : ∀ args w, (callFunc 42 args).run Tryz.prog w = .ok (.enter 42 args) w := fun args w => by go_simp
theorem op_bsAB {ev : Operand → Value} {o : Oper} {x y : Operand} {w : World} (ho : o.op = .buildSlice 27 2 #[(0, x), (1, y)]) (h1 : ev x = .string ⟨#[97]⟩) (h2 : ev y = .string ⟨#[98]⟩) : (execOp ev o).run Tryz.prog w = .ok (.value (.slice (some ⟨w.heap.size, 0, none⟩) 2 2)) (w.alloc (.cells #[.string ⟨#[97]⟩, .string ⟨#[98]⟩] 9)) := by
  unfold execOp
  rw [ho]
  go_simp
theorem play1 (w : World) : Calls Tryz.prog 21 #[.int .i64 1] w fun e w' => e = .returned (RW.fv (RW.playX 1)) ∧ Below w.heap.size w w' := play_any 1 (by decide) w
theorem play2 (w : World) : Calls Tryz.prog 21 #[.int .i64 2] w fun e w' => e = .returned (RW.fv (RW.playX 2)) ∧ Below w.heap.size w w' := play_any 2 (by decide) w
set_option maxRecDepth 100000 in
set_option maxHeartbeats 8000000 in
theorem sane_any (ks : Array Value) (hks : RW.WsOk ks RW.k0F) (w : World) (hK : KLaid w ks) :
    Calls Tryz.prog 11 #[] w fun e w' => e = .returned (.bool true) ∧ Below w.heap.size w w' := by
  obtain ⟨ka, kb, ya, yb, hC2, hy0, hlt, hka, hkb⟩ := RW.san_two
  have hC2 := hide hC2
  have hy0 := hide hy0
  have hlt := hide hlt
  have hka := hide hka
  have hkb := hide hkb
  obtain ⟨B, hB⟩ : ∃ B, B = w.heap.size := ⟨_, rfl⟩
  have hK0 := hide (fun W (hW : Below B w W) => RW.klaid hK (hB ▸ hW : Below w.heap.size w W))
  have hksH := hide hks
  have hBH := hide hB
  rw [← hB]
  clear hK hB hks
  go_enter Tryz.func11, Tryz.ntmps11
  go_upto_region 2 with (go_at_call 19; refine (snew_any _).mono ?_; rintro e w1 ⟨sb, mb, rfl, g1, g2, g3, g4⟩; have h1 := hide (And.intro g1 (And.intro g2 (And.intro g3 g4))); clear g1 g2 g3 g4)
  go_upto_region 3 with (go_at_call 19; refine (snew_any _).mono ?_; rintro e w2 ⟨tb, nb, rfl, g1, g2, g3, g4⟩; have h2 := hide (And.intro g1 (And.intro g2 (And.intro g3 g4))); clear g1 g2 g3 g4)
  have hS2 := hide (show SnW B sb mb tb nb w [] [] w2 from ⟨h1.out.1.next h2.out.2.1, h2.out.1, by rw [hBH.out]; exact h1.out.2.1.trans (h2.out.2.1.mono h1.out.2.1.size), fun e => by have := h1.out.1.lt.2; have := h2.out.2.2.2; omega, by rw [hBH.out]; exact h1.out.2.2.2, by rw [hBH.out]; exact Nat.le_trans h1.out.2.1.size h2.out.2.2.2, Nat.le_of_eq hBH.out⟩)
  clear h1 h2
  have hA1 := hide (fun W (h : SnW B sb mb tb nb w [] [] W) => (show Calls Tryz.prog 20 #[.pointer (some ⟨sb, 0, none⟩), RW.fv (RW.playX 1)] W fun e w' => e = .returned (.tuple #[.bool true, .int .i64 0]) ∧ SnW B sb mb tb nb w RW.cC [] w' from by
    refine (sadd_any RW.k0F ks hksH.out sb mb [] (RW.playX 1) W h.s (hK0.out W h.b)).mono ?_
    rintro e w' ⟨e1, e2, e3⟩
    rw [RW.addR_new (C := []) (RW.play_valid 1 (by decide)) rfl (by decide)] at e1 e2
    exact ⟨e1, h.chS e2 e3⟩))
  go_upto_region 6 with (first
    | (go_at_call 21; refine (play1 _).mono ?_; rintro e w3 ⟨rfl, h⟩; have h3 := hide (hS2.out.next h); clear h)
    | (go_at_call 20; refine (hA1.out _ h3.out).mono ?_; rintro e w4 ⟨rfl, h⟩; have h4 := hide h; clear h))
  clear hS2 h3 hA1
  have hA2 := hide (fun W (h : SnW B sb mb tb nb w RW.cC [] W) => (show Calls Tryz.prog 20 #[.pointer (some ⟨sb, 0, none⟩), RW.fv (RW.playX 1)] W fun e w' => e = .returned (.tuple #[.bool false, .int .i64 0]) ∧ SnW B sb mb tb nb w RW.cC [] w' from by
    refine (sadd_any RW.k0F ks hksH.out sb mb RW.cC (RW.playX 1) W h.s (hK0.out W h.b)).mono ?_
    rintro e w' ⟨e1, e2, e3⟩
    rw [RW.addR_known (C := RW.cC) (RW.play_valid 1 (by decide)) (by unfold RW.cC; rw [KM.get_cons, if_pos rfl]; rfl)] at e1 e2
    exact ⟨e1, h.chS e2 e3⟩))
  go_upto_region 7 with (first
    | (go_at_call 21; refine (play1 _).mono ?_; rintro e w5 ⟨rfl, h⟩; have h5 := hide (h4.out.next h); clear h)
    | (go_at_call 20; refine (hA2.out _ h5.out).mono ?_; rintro e w6 ⟨rfl, h⟩; have h6 := hide h; clear h))
  clear h4 h5 hA2
  have hA3 := hide (show Calls Tryz.prog 20 #[.pointer (some ⟨sb, 0, none⟩), .agg #[.int .i64 0, .int .i64 0, .int .i64 0, .int .i64 0, .int .i64 0, .int .i64 0, .int .i64 0, .int .i64 0, .int .i64 0, .int .i64 0, .int .i64 0, .int .i64 0, .int .i64 0, .int .i64 0, .int .i64 0, .int .i64 0, .int .i64 0, .string ⟨#[]⟩]] w6 fun e w' => e = .returned (.tuple #[.bool false, .int .i64 60]) ∧ SnW B sb mb tb nb w RW.cC [] w' from by
    refine (sadd_any RW.k0F ks hksH.out sb mb RW.cC RW.zeroFv w6 h6.out.s (hK0.out _ h6.out.b)).mono ?_
    rintro e w' ⟨e1, e2, e3⟩
    rw [RW.addR_bad RW.zero_bad] at e1 e2
    exact ⟨e1, h6.out.chS e2 e3⟩)
  go_upto_region 8 with (go_at_call 20; refine hA3.out.mono ?_; rintro e w7 ⟨rfl, h⟩; have h7 := hide h; clear h)
  clear h6 hA3
  have hA4 := hide (fun W (h : SnW B sb mb tb nb w RW.cC [] W) => (show Calls Tryz.prog 20 #[.pointer (some ⟨tb, 0, none⟩), RW.fv (RW.playX 2)] W fun e w' => e = .returned (.tuple #[.bool true, .int .i64 0]) ∧ SnW B sb mb tb nb w RW.cC RW.cD w' from by
    refine (sadd_any RW.k0F ks hksH.out tb nb [] (RW.playX 2) W h.t (hK0.out W h.b)).mono ?_
    rintro e w' ⟨e1, e2, e3⟩
    rw [RW.addR_new (C := []) (RW.play_valid 2 (by decide)) rfl (by decide)] at e1 e2
    exact ⟨e1, h.chT e2 e3⟩))
  go_upto_region 9 with (first
    | (go_at_call 21; refine (play2 _).mono ?_; rintro e w8 ⟨rfl, h⟩; have h8 := hide (h7.out.next h); clear h)
    | (go_at_call 20; refine (hA4.out _ h8.out).mono ?_; rintro e w9 ⟨rfl, h⟩; have h9 := hide h; clear h))
  clear h7 h8 hA4
  obtain ⟨C2, hC⟩ : ∃ C2 : RW.Ents, C2 = [(ka, RW.fv ya), (kb, RW.fv yb)] := ⟨_, rfl⟩
  have hCH := hide hC
  clear hC
  have hU := hide (show Calls Tryz.prog 22 #[.pointer (some ⟨sb, 0, none⟩), .pointer (some ⟨tb, 0, none⟩)] w9 fun e w' => e = .returned (.int .i64 0) ∧ SnW B sb mb tb nb w C2 RW.cD w' from by
    refine (sunion_any sb mb tb nb RW.cC RW.cD w9 h9.out.s h9.out.t h9.out.ne (by show 1 ≤ 1000000; decide) (by show 1 ≤ 1000000; decide)).mono ?_
    rintro e w' ⟨e1, e2, e3⟩
    have hr : RW.uniR RW.cD RW.cC = (0, C2) := by unfold RW.uniR; rw [hC2.out, if_neg (by show ¬ 4000 < 2; decide), hCH.out]
    rw [hr] at e1 e2
    exact ⟨e1, h9.out.chS e2 e3⟩)
  go_upto_region 10 with (go_at_call 22; refine hU.out.mono ?_; rintro e w10 ⟨rfl, h⟩; have h10 := hide h; clear h)
  clear h9 hU
  have hI := hide (sids_any sb mb C2 (by rw [hCH.out]; show 2 ≤ 1000000; decide) w10 h10.out.s)
  rw [show C2.map (·.1) = [ka, kb] by rw [hCH.out]; rfl] at hI
  go_upto_region 11 with (go_at_call 14; refine hI.out.mono ?_; rintro e w11 ⟨u, rfl, g1, g2⟩; have h11 := hide (h10.out.next g2); obtain ⟨g, o, c, e, _⟩ := strR_cell (W' := w11) (strs_own g1) (show [ka, kb][0]? = some ka from rfl); have e : u = .slice (some ⟨g, o, none⟩) 2 c := e; subst e; have hL11 := hide (strs_own g1); clear g1 g2)
  have hcap := hide (row_cap hL11.out)
  clear h10 hI
  have hcA := hide (fun W (hW : Below w11.heap.size w11 W) => (show W.cell? ⟨g, o, none⟩ = some (.string ka) ∧ W.cell? ⟨g, o + 1, none⟩ = some (.string kb) from by
    obtain ⟨_, _, _, e1, f1⟩ := strR_cell (W' := W) hL11.out (show [ka, kb][0]? = some ka from rfl)
    obtain ⟨_, _, _, e2, f2⟩ := strR_cell (W' := W) hL11.out (show [ka, kb][1]? = some kb from rfl)
    cases e1
    cases e2
    exact ⟨f1 W hW, f2 W hW⟩))
  have c0 := (hcA.out w11 (Below.refl _ _)).1
  obtain ⟨cs, hcs⟩ : ∃ cs, cs = RW.fcells ya.1 ya.2 := ⟨_, rfl⟩
  have hG := hide (show Calls Tryz.prog 35 #[.pointer (some ⟨sb, 0, none⟩), .string ka] w11 fun e w' => e = .returned (.tuple #[.agg cs, .bool true]) ∧ Below w11.heap.size w11 w' from by
    refine (sget_any sb mb C2 ka w11 h11.out.s).mono ?_
    rintro e w' ⟨e1, e2⟩
    have hg : KM.get ka C2 = some (RW.fv ya) := by rw [hCH.out, KM.get_cons, if_pos rfl]
    rw [hg] at e1
    exact ⟨by rw [hcs]; exact e1, e2⟩)
  have hi := fact_infoF ya.1 ya.2
  have h1 := fcells_oneF ya.1 ya.2
  have hn : cs.size = 18 := by rw [hcs]; rfl
  rw [← hcs] at hi h1
  have hk0 := hide (show cs[0]? = some (.int .i64 1) by rw [hcs, fcells_get _ _ 0 (by decide), hy0.out])
  clear hcs
  go_upto_region 14 with (first
    | (go_at_call 35; refine hG.out.mono ?_; rintro e w12 ⟨rfl, h⟩; have h12 := hide h; clear h)
    | (refine wpList_store_newF rfl 38 (.tmp 13) (.tmp 66) rfl cs rfl rfl 38 _ hi (by rw [hn]; rfl) h1 ?_))
  have hA := hide (alloc_bel (Below.refl w12.heap.size w12) (Nat.le_refl _) (.cells cs 38))
  refine gen_w (fun W => Below w11.heap.size w11 W ∧ W.heap[w12.heap.size]? = some (.cells cs 38 (0, 0))) ⟨h12.out.trans (hA.out.mono h12.out.size), alloc_at1 _ _⟩ ?_
  rintro w13 ⟨h13, hz13⟩
  obtain ⟨b13, hb13⟩ : ∃ b, b = w12.heap.size := ⟨_, rfl⟩
  rw [← hb13] at hz13 ⊢
  have h13 := hide h13
  have hz13 := hide hz13
  clear hA hb13 h12 hG c0 hi h1
  have hcap' := hcap.out
  have hLs := hide (show StrR w13 (.slice (some ⟨g, o + 1, none⟩) 1 (c - 1)) [kb] from RowV.sub (k := 1) (enc := fun s => [Value.string s]) (l := [ka, kb]) (a := some ⟨g, o, none⟩) (cap := c) (hL11.out.next h13.out) 1 2 (by decide) (Nat.le_refl _))
  have hP := hide (show Calls Tryz.prog 27 #[.pointer (some ⟨sb, 0, none⟩), .slice (some ⟨g, o + 1, none⟩) 1 (c - 1)] w13 fun e w' => ∃ pb qb, e = .returned (.tuple #[.pointer (some ⟨pb, 0, none⟩), .bool true]) ∧ SetAt w' pb qb [(kb, RW.fv yb)] ∧ Below w13.heap.size w13 w' from by
    refine (spart_any sb mb C2 _ [kb] (by show 1 ≤ 1000000; decide) w13 (h11.out.next h13.out).s hLs.out).mono ?_
    have hg : KM.get kb C2 = some (RW.fv yb) := by rw [hCH.out, KM.get_cons, if_neg (fun e => RW.blt_ne hlt.out e.symm), KM.get_cons, if_pos rfl]
    rintro e w' ⟨e1, ⟨rfl, k, hk, e3⟩ | ⟨pb, qb, rfl, _, e4, _⟩⟩
    · rw [List.mem_singleton] at hk
      rw [hk, hg] at e3
      cases e3
    · refine ⟨pb, qb, rfl, ?_, e1⟩
      have e5 : RW.partE C2 [kb] = [(kb, RW.fv yb)] := by
        show RW.updE kb ((KM.get kb C2).getD (RW.fv RW.zeroFv)) [] = _
        rw [hg]
        rfl
      rw [e5] at e4
      exact e4)
  have hc1 : (1 : Int) ≤ (c : Int) := by omega
  go_upto_region 15 with (go_at_call 27; refine hP.out.mono ?_; rintro e w14 ⟨pb, qb, rfl, g1, g2⟩; have h14 := hide (h13.out.trans (g2.mono h13.out.size)); have hP14 := hide g1; have q14 := hide g2; clear g1 g2)
  clear hP hcap' hc1 hLs
  have hAx := hide (alloc_bel (Below.refl w14.heap.size w14) (Nat.le_refl _) (.cells #[.string ⟨#[120]⟩] 9))
  have hP2 := hide (show Calls Tryz.prog 27 #[.pointer (some ⟨sb, 0, none⟩), .slice (some ⟨w14.heap.size, 0, none⟩) 1 1] (w14.alloc (.cells #[.string ⟨#[120]⟩] 9)) fun e w' => e = .returned (.tuple #[.pointer none, .bool false]) ∧ Below w14.heap.size w14 w' from by
    refine (spart_any sb mb C2 _ [RW.sX] (by show 1 ≤ 1000000; decide) _ ((h11.out.next h14.out).next hAx.out).s (rows_lit (enc := fun s => [Value.string s]) (k := 1) w14 9 (fun _ => rfl) [RW.sX])).mono ?_
    rintro e w' ⟨e1, ⟨rfl, _⟩ | ⟨pb, qb, rfl, e3, _⟩⟩
    · exact ⟨rfl, hAx.out.trans (e1.mono hAx.out.size)⟩
    · have h5 := e3 RW.sX (by simp)
      rw [hCH.out, KM.get_cons, if_neg (x_ne hka.out), KM.get_cons, if_neg (x_ne hkb.out)] at h5
      cases h5)
  go_upto_region 16 with (go_at_call 27; refine hP2.out.mono ?_; rintro e w15 ⟨rfl, g1⟩; have h15 := hide (h14.out.trans (g1.mono h14.out.size)); have hP15 := hide (hP14.out.next g1); have q15 := hide (q14.out.trans (g1.mono q14.out.size)); clear g1)
  clear hP2 hAx hP14 h14
  have hB15 := hide (show Below w11.heap.size w11 w15 from h15.out)
  have c1 := (hcA.out w15 hB15.out).1
  have hAm := hide (alloc_bel (Below.refl w15.heap.size w15) (Nat.le_refl _) (.cells #[.string ⟨#[98]⟩, .string ka, .string ⟨#[97]⟩, .string ⟨#[98]⟩] 9))
  have hM := hide (show Calls Tryz.prog 32 #[.pointer (some ⟨sb, 0, none⟩), .slice (some ⟨w15.heap.size, 0, none⟩) 4 4] (w15.alloc (.cells #[.string ⟨#[98]⟩, .string ka, .string ⟨#[97]⟩, .string ⟨#[98]⟩] 9)) fun e w' => ∃ u, e = .returned u ∧ StrR w' u [RW.sA, RW.sB] ∧ Below w15.heap.size w15 w' from by
    refine (smiss_any (some ⟨sb, 0, none⟩) (fun x => (KM.get x C2).isSome) _ [RW.sB, ka, RW.sA, RW.sB] (by show 4 ≤ 1000000; decide) _ (hasP_set ((h11.out.next hB15.out).next hAm.out).s) (rows_lit (enc := fun s => [Value.string s]) (k := 1) w15 9 (fun _ => rfl) [RW.sB, ka, RW.sA, RW.sB])).mono ?_
    rintro e w' ⟨u, rfl, e1, e2⟩
    rw [hCH.out, RW.miss_two hka.out hkb.out] at e1
    exact ⟨u, rfl, strs_own e1, hAm.out.trans (e2.mono hAm.out.size)⟩)
  go_upto_region 17 with (go_at_call 32; refine hM.out.mono ?_; rintro e w16 ⟨um, rfl, g1, g2⟩; have h16 := hide (hB15.out.trans (g2.mono hB15.out.size)); have hP16 := hide (hP15.out.next g2); have q16 := hide (q15.out.trans (g2.mono q15.out.size)); have hm16 := hide g1; clear g1 g2)
  have hz16 := hide ((q16.out.block _ (Array.getElem?_eq_some_iff.1 hz13.out).1).trans hz13.out)
  clear hM hAm c1 hP15 q15 q14 hB15 h15 h13 hz13 q16
  have hn16 := hide (h11.out.next h16.out)
  obtain ⟨R, hR⟩ : ∃ R, R = RW.rootB RW.k0F [ka, kb] := ⟨_, rfl⟩
  have hRH := hide hR
  clear hR
  have hF := hide (fun W (hW : Below w16.heap.size w16 W) => (show SnW B sb mb tb nb w C2 RW.cD W ∧ SetAt W pb qb [(kb, RW.fv yb)] ∧ W.cell? ⟨g, o, none⟩ = some (.string ka) ∧ W.cell? ⟨g, o + 1, none⟩ = some (.string kb) ∧ W.cell? ⟨b13, 0, none⟩ = some (.int .i64 1) ∧ StrR W um [RW.sA, RW.sB] ∧ StrR W (.slice (some ⟨g, o, none⟩) 2 c) [ka, kb] from
    ⟨hn16.out.next hW, hP16.out.next hW, (hcA.out W (h16.out.trans (hW.mono h16.out.size))).1, (hcA.out W (h16.out.trans (hW.mono h16.out.size))).2, by rw [cellAt ((hW.block _ (Array.getElem?_eq_some_iff.1 hz16.out).1).trans hz16.out) 0]; exact hk0.out, hm16.out.next hW, hL11.out.next (h16.out.trans (hW.mono h16.out.size))⟩))
  clear hn16 hP16 hm16 hk0 hL11 hcA hcap hz16 h16
  as_aux_lemma =>
    refine wp_region_l (fun _ W => Below w16.heap.size w16 W) (fun _ => True) [50, 59, 60, 64, 66, 71, 76] (.op 0 (.op 1 (.op 2 (.op 3 (.op 4 (.op 5 (.op 6 (.op 7 (.op 8 (.op 9 (.op 10 (.op 11 (.op 12 (.op 13 (.op 14 (.op 15 (.op 16 (.op 17 (.op 18 (.op 19 (.op 20 (.op 21 (.op 22 (.op 23 (.op 24 (.op 25 (.op 26 (.op 27 (.op 28 (.op 29 (.op 30 (.op 31 (.op 32 (.op 33 (.op 34 (.op 35 (.op 36 (.op 37 (.op 38 (.op 39 (.op 40 (.op 41 (.op 42 (.op 43 (.op 44 (.op 45 (.op 46 (.op 47 (.op 48 (.op 49 (.op 50 (.op 51 (.op 52 (.op 53 (.op 54 (.op 55 (.op 56 (.op 57 (.op 58 (.op 59 (.op 60 (.op 61 (.op 62 (.op 63 (.op 65 (.op 64 (.op 66 (.op 67 (.op 68 (.op 69 (.op 70 (.op 71 (.op 72 (.op 73 (.op 74 (.op 75 (.op 76 (.op 77 (.op 78 (.op 79 .nil)))))))))))))))))))))))))))))))))))))))))))))))))))))))))))))))))))))))))))))))) 80 [[], [0], [1], [2, 1], [1, 3], [4, 1], [5], [6, 5], [5, 7], [8, 5], [9], [10, 9], [9, 11], [12, 9], [13], [14, 13], [13, 15], [16, 13], [17], [17, 18], [19, 17], [20], [21, 20], [20, 22], [23, 20], [24], [25, 24], [24, 26], [27, 24], [28], [29, 28], [30, 28], [28], [32, 28], [33, 28], [31, 34, 28], [28, 35], [36, 28], [37], [37, 38], [39, 37], [40], [41, 40], [42, 40], [40, 43], [44, 40], [45], [45, 46], [47, 45], [48], [49, 48, 48], [50, 48], [48, 51], [52, 50], [53], [54, 53], [53, 55], [56, 53], [57], [57], [58, 59, 57, 57], [57, 60], [61, 60], [62], [63, 62, 62], [62], [65, 64, 62], [64, 66, 62], [62, 67], [68, 66], [69], [70, 69, 69], [71, 69], [69, 72], [73, 71], [74], [75, 74, 74], [76, 74], [74, 77], [78, 76, 0, 1, 2, 3, 4, 5, 6, 7, 8, 9, 10, 11, 12, 13, 14, 15, 16, 17, 18, 19, 20, 21, 22, 23, 24, 25, 26, 27, 28, 29, 30, 31, 32, 33, 34, 35, 36, 37, 38, 39, 40, 41, 42, 43, 44, 45, 46, 47, 48, 49, 50, 51, 52, 53, 54, 55, 56, 57, 58, 59, 60, 61, 62, 63, 64, 65, 66, 67, 68, 69, 70, 71, 72, 73, 74, 75, 76, 77, 78]] (by kernel_rfl) (by kernel_rfl) (by rfl) (by rfl) (by kernel_rfl) (by kernel_rfl) (Below.refl _ _).drew trivial ?_
    refine k_val (.bool true) (by apply opN; repeat' (first | apply OpAt.z | apply OpAt.s)) (by rfl) (by rfl) (fun _ W hS => op_mv rfl rfl) ?_
    simp only [Act.put, List.setIfInBounds_toArray, List.set_cons_zero, List.set_cons_succ]
    refine k_val (.bool true) (by apply opN; repeat' (first | apply OpAt.z | apply OpAt.s)) (by rfl) (by rfl) (fun _ W hS => op_mv rfl rfl) ?_
    simp only [Act.put, List.setIfInBounds_toArray, List.set_cons_zero, List.set_cons_succ]
    refine k_val (.int .i64 0) (by apply opN; repeat' (first | apply OpAt.z | apply OpAt.s)) (by rfl) (by rfl) (fun _ W hS => op_mv rfl rfl) ?_
    simp only [Act.put, List.setIfInBounds_toArray, List.set_cons_zero, List.set_cons_succ]
    refine k_val (.bool true) (by apply opN; repeat' (first | apply OpAt.z | apply OpAt.s)) (by rfl) (by rfl) (fun _ W hS => op_eqe rfl rfl rfl) ?_
    simp only [Act.put, List.setIfInBounds_toArray, List.set_cons_zero, List.set_cons_succ]
    refine k_val (.bool true) (by apply opN; repeat' (first | apply OpAt.z | apply OpAt.s)) (by rfl) (by rfl) (fun _ W hS => op_pk rfl rfl rfl rfl rfl) ?_
    simp only [Act.put, List.setIfInBounds_toArray, List.set_cons_zero, List.set_cons_succ]
    refine k_val (.bool true) (by apply opN; repeat' (first | apply OpAt.z | apply OpAt.s)) (by rfl) (by rfl) (fun _ W hS => op_mv rfl rfl) ?_
    simp only [Act.put, List.setIfInBounds_toArray, List.set_cons_zero, List.set_cons_succ]
    refine k_val (.bool false) (by apply opN; repeat' (first | apply OpAt.z | apply OpAt.s)) (by rfl) (by rfl) (fun _ W hS => op_mv rfl rfl) ?_
    simp only [Act.put, List.setIfInBounds_toArray, List.set_cons_zero, List.set_cons_succ]
    refine k_val (.bool true) (by apply opN; repeat' (first | apply OpAt.z | apply OpAt.s)) (by rfl) (by rfl) (fun _ W hS => op_noS (p := false) rfl rfl) ?_
    simp only [Act.put, List.setIfInBounds_toArray, List.set_cons_zero, List.set_cons_succ]
    refine k_val (.bool true) (by apply opN; repeat' (first | apply OpAt.z | apply OpAt.s)) (by rfl) (by rfl) (fun _ W hS => op_pk rfl rfl rfl rfl rfl) ?_
    simp only [Act.put, List.setIfInBounds_toArray, List.set_cons_zero, List.set_cons_succ]
    refine k_val (.bool true) (by apply opN; repeat' (first | apply OpAt.z | apply OpAt.s)) (by rfl) (by rfl) (fun _ W hS => op_mv rfl rfl) ?_
    simp only [Act.put, List.setIfInBounds_toArray, List.set_cons_zero, List.set_cons_succ]
    refine k_val (.int .i64 0) (by apply opN; repeat' (first | apply OpAt.z | apply OpAt.s)) (by rfl) (by rfl) (fun _ W hS => op_mv rfl rfl) ?_
    simp only [Act.put, List.setIfInBounds_toArray, List.set_cons_zero, List.set_cons_succ]
    refine k_val (.bool true) (by apply opN; repeat' (first | apply OpAt.z | apply OpAt.s)) (by rfl) (by rfl) (fun _ W hS => op_eqe rfl rfl rfl) ?_
    simp only [Act.put, List.setIfInBounds_toArray, List.set_cons_zero, List.set_cons_succ]
    refine k_val (.bool true) (by apply opN; repeat' (first | apply OpAt.z | apply OpAt.s)) (by rfl) (by rfl) (fun _ W hS => op_pk rfl rfl rfl rfl rfl) ?_
    simp only [Act.put, List.setIfInBounds_toArray, List.set_cons_zero, List.set_cons_succ]
    refine k_val (.bool true) (by apply opN; repeat' (first | apply OpAt.z | apply OpAt.s)) (by rfl) (by rfl) (fun _ W hS => op_mv rfl rfl) ?_
    simp only [Act.put, List.setIfInBounds_toArray, List.set_cons_zero, List.set_cons_succ]
    refine k_val (.int .i64 60) (by apply opN; repeat' (first | apply OpAt.z | apply OpAt.s)) (by rfl) (by rfl) (fun _ W hS => op_mv rfl rfl) ?_
    simp only [Act.put, List.setIfInBounds_toArray, List.set_cons_zero, List.set_cons_succ]
    refine k_val (.bool true) (by apply opN; repeat' (first | apply OpAt.z | apply OpAt.s)) (by rfl) (by rfl) (fun _ W hS => op_eqe rfl rfl rfl) ?_
    simp only [Act.put, List.setIfInBounds_toArray, List.set_cons_zero, List.set_cons_succ]
    refine k_val (.bool true) (by apply opN; repeat' (first | apply OpAt.z | apply OpAt.s)) (by rfl) (by rfl) (fun _ W hS => op_pk rfl rfl rfl rfl rfl) ?_
    simp only [Act.put, List.setIfInBounds_toArray, List.set_cons_zero, List.set_cons_succ]
    refine k_val (.bool true) (by apply opN; repeat' (first | apply OpAt.z | apply OpAt.s)) (by rfl) (by rfl) (fun _ W hS => op_mv rfl rfl) ?_
    simp only [Act.put, List.setIfInBounds_toArray, List.set_cons_zero, List.set_cons_succ]
    refine k_val (.bool true) (by apply opN; repeat' (first | apply OpAt.z | apply OpAt.s)) (by rfl) (by rfl) (fun _ W hS => op_mv rfl rfl) ?_
    simp only [Act.put, List.setIfInBounds_toArray, List.set_cons_zero, List.set_cons_succ]
    refine k_val (.bool true) (by apply opN; repeat' (first | apply OpAt.z | apply OpAt.s)) (by rfl) (by rfl) (fun _ W hS => op_pk rfl rfl rfl rfl rfl) ?_
    simp only [Act.put, List.setIfInBounds_toArray, List.set_cons_zero, List.set_cons_succ]
    as_aux_lemma =>
      refine k_val (.bool true) (by apply opN; repeat' (first | apply OpAt.z | apply OpAt.s)) (by rfl) (by rfl) (fun _ W hS => op_mv rfl rfl) ?_
      simp only [Act.put, List.setIfInBounds_toArray, List.set_cons_zero, List.set_cons_succ]
      refine k_val (.int .i64 0) (by apply opN; repeat' (first | apply OpAt.z | apply OpAt.s)) (by rfl) (by rfl) (fun _ W hS => op_mv rfl rfl) ?_
      simp only [Act.put, List.setIfInBounds_toArray, List.set_cons_zero, List.set_cons_succ]
      refine k_val (.bool true) (by apply opN; repeat' (first | apply OpAt.z | apply OpAt.s)) (by rfl) (by rfl) (fun _ W hS => op_eqe rfl rfl rfl) ?_
      simp only [Act.put, List.setIfInBounds_toArray, List.set_cons_zero, List.set_cons_succ]
      refine k_val (.bool true) (by apply opN; repeat' (first | apply OpAt.z | apply OpAt.s)) (by rfl) (by rfl) (fun _ W hS => op_pk rfl rfl rfl rfl rfl) ?_
      simp only [Act.put, List.setIfInBounds_toArray, List.set_cons_zero, List.set_cons_succ]
      refine k_val (.bool true) (by apply opN; repeat' (first | apply OpAt.z | apply OpAt.s)) (by rfl) (by rfl) (fun _ W hS => op_mv rfl rfl) ?_
      simp only [Act.put, List.setIfInBounds_toArray, List.set_cons_zero, List.set_cons_succ]
      refine k_val (.int .i64 0) (by apply opN; repeat' (first | apply OpAt.z | apply OpAt.s)) (by rfl) (by rfl) (fun _ W hS => op_mv rfl rfl) ?_
      simp only [Act.put, List.setIfInBounds_toArray, List.set_cons_zero, List.set_cons_succ]
      refine k_val (.bool true) (by apply opN; repeat' (first | apply OpAt.z | apply OpAt.s)) (by rfl) (by rfl) (fun _ W hS => op_eqe rfl rfl rfl) ?_
      simp only [Act.put, List.setIfInBounds_toArray, List.set_cons_zero, List.set_cons_succ]
      refine k_val (.bool true) (by apply opN; repeat' (first | apply OpAt.z | apply OpAt.s)) (by rfl) (by rfl) (fun _ W hS => op_pk rfl rfl rfl rfl rfl) ?_
      simp only [Act.put, List.setIfInBounds_toArray, List.set_cons_zero, List.set_cons_succ]
      refine k_val (.bool true) (by apply opN; repeat' (first | apply OpAt.z | apply OpAt.s)) (by rfl) (by rfl) (fun _ W hS => op_mv rfl rfl) ?_
      simp only [Act.put, List.setIfInBounds_toArray, List.set_cons_zero, List.set_cons_succ]
      refine k_val (.slice (some ⟨g, o, none⟩) 2 c) (by apply opN; repeat' (first | apply OpAt.z | apply OpAt.s)) (by rfl) (by rfl) (fun _ W hS => op_mv rfl rfl) ?_
      simp only [Act.put, List.setIfInBounds_toArray, List.set_cons_zero, List.set_cons_succ]
      refine k_val (.pointer (some ⟨g, o, none⟩)) (by apply opN; repeat' (first | apply OpAt.z | apply OpAt.s)) (by rfl) (by rfl) (fun _ W hS => op_idx_s (i := 0) rfl rfl rfl (by decide)) ?_
      simp only [Act.put, List.setIfInBounds_toArray, List.set_cons_zero, List.set_cons_succ]
      refine k_val (.string ka) (by apply opN; repeat' (first | apply OpAt.z | apply OpAt.s)) (by rfl) (by rfl) (fun _ W hS => op_ld rfl rfl (str_ld (hF.out W hS).2.2.1)) ?_
      simp only [Act.put, List.setIfInBounds_toArray, List.set_cons_zero, List.set_cons_succ]
      refine k_val (.slice (some ⟨g, o, none⟩) 2 c) (by apply opN; repeat' (first | apply OpAt.z | apply OpAt.s)) (by rfl) (by rfl) (fun _ W hS => op_mv rfl rfl) ?_
      simp only [Act.put, List.setIfInBounds_toArray, List.set_cons_zero, List.set_cons_succ]
      refine k_val (.pointer (some ⟨g, o + 1, none⟩)) (by apply opN; repeat' (first | apply OpAt.z | apply OpAt.s)) (by rfl) (by rfl) (fun _ W hS => op_idx_s (i := 1) rfl rfl rfl (by decide)) ?_
      simp only [Act.put, List.setIfInBounds_toArray, List.set_cons_zero, List.set_cons_succ]
      refine k_val (.string kb) (by apply opN; repeat' (first | apply OpAt.z | apply OpAt.s)) (by rfl) (by rfl) (fun _ W hS => op_ld rfl rfl (str_ld (hF.out W hS).2.2.2.1)) ?_
      simp only [Act.put, List.setIfInBounds_toArray, List.set_cons_zero, List.set_cons_succ]
      refine k_val (.bool true) (by apply opN; repeat' (first | apply OpAt.z | apply OpAt.s)) (by rfl) (by rfl) (fun _ W hS => op_ltS rfl rfl rfl hlt.out) ?_
      simp only [Act.put, List.setIfInBounds_toArray, List.set_cons_zero, List.set_cons_succ]
      refine k_val (.bool true) (by apply opN; repeat' (first | apply OpAt.z | apply OpAt.s)) (by rfl) (by rfl) (fun _ W hS => op_pk rfl rfl rfl rfl rfl) ?_
      simp only [Act.put, List.setIfInBounds_toArray, List.set_cons_zero, List.set_cons_succ]
      refine k_val (.bool true) (by apply opN; repeat' (first | apply OpAt.z | apply OpAt.s)) (by rfl) (by rfl) (fun _ W hS => op_mv rfl rfl) ?_
      simp only [Act.put, List.setIfInBounds_toArray, List.set_cons_zero, List.set_cons_succ]
      refine k_val (.bool true) (by apply opN; repeat' (first | apply OpAt.z | apply OpAt.s)) (by rfl) (by rfl) (fun _ W hS => op_mv rfl rfl) ?_
      simp only [Act.put, List.setIfInBounds_toArray, List.set_cons_zero, List.set_cons_succ]
      refine k_val (.bool true) (by apply opN; repeat' (first | apply OpAt.z | apply OpAt.s)) (by rfl) (by rfl) (fun _ W hS => op_pk rfl rfl rfl rfl rfl) ?_
      simp only [Act.put, List.setIfInBounds_toArray, List.set_cons_zero, List.set_cons_succ]
      as_aux_lemma =>
        refine k_val (.bool true) (by apply opN; repeat' (first | apply OpAt.z | apply OpAt.s)) (by rfl) (by rfl) (fun _ W hS => op_mv rfl rfl) ?_
        simp only [Act.put, List.setIfInBounds_toArray, List.set_cons_zero, List.set_cons_succ]
        refine k_val (.pointer (some ⟨b13, 0, none⟩)) (by apply opN; repeat' (first | apply OpAt.z | apply OpAt.s)) (by rfl) (by rfl) (fun _ W hS => op_fa rfl rfl (fa_fact W)) ?_
        simp only [Act.put, List.setIfInBounds_toArray, List.set_cons_zero, List.set_cons_succ]
        refine k_val (.int .i64 1) (by apply opN; repeat' (first | apply OpAt.z | apply OpAt.s)) (by rfl) (by rfl) (fun _ W hS => op_ld rfl rfl (int_ldS (hF.out W hS).2.2.2.2.1)) ?_
        simp only [Act.put, List.setIfInBounds_toArray, List.set_cons_zero, List.set_cons_succ]
        refine k_val (.bool true) (by apply opN; repeat' (first | apply OpAt.z | apply OpAt.s)) (by rfl) (by rfl) (fun _ W hS => op_eqn rfl rfl rfl) ?_
        simp only [Act.put, List.setIfInBounds_toArray, List.set_cons_zero, List.set_cons_succ]
        refine k_val (.bool true) (by apply opN; repeat' (first | apply OpAt.z | apply OpAt.s)) (by rfl) (by rfl) (fun _ W hS => op_pk rfl rfl rfl rfl rfl) ?_
        simp only [Act.put, List.setIfInBounds_toArray, List.set_cons_zero, List.set_cons_succ]
        refine k_val (.bool true) (by apply opN; repeat' (first | apply OpAt.z | apply OpAt.s)) (by rfl) (by rfl) (fun _ W hS => op_mv rfl rfl) ?_
        simp only [Act.put, List.setIfInBounds_toArray, List.set_cons_zero, List.set_cons_succ]
        refine k_val (.bool true) (by apply opN; repeat' (first | apply OpAt.z | apply OpAt.s)) (by rfl) (by rfl) (fun _ W hS => op_mv rfl rfl) ?_
        simp only [Act.put, List.setIfInBounds_toArray, List.set_cons_zero, List.set_cons_succ]
        refine k_val (.bool true) (by apply opN; repeat' (first | apply OpAt.z | apply OpAt.s)) (by rfl) (by rfl) (fun _ W hS => op_pk rfl rfl rfl rfl rfl) ?_
        simp only [Act.put, List.setIfInBounds_toArray, List.set_cons_zero, List.set_cons_succ]
        refine k_val (.bool true) (by apply opN; repeat' (first | apply OpAt.z | apply OpAt.s)) (by rfl) (by rfl) (fun _ W hS => op_mv rfl rfl) ?_
        simp only [Act.put, List.setIfInBounds_toArray, List.set_cons_zero, List.set_cons_succ]
        refine k_val (.pointer (some ⟨pb, 0, none⟩)) (by apply opN; repeat' (first | apply OpAt.z | apply OpAt.s)) (by rfl) (by rfl) (fun _ W hS => op_mv rfl rfl) ?_
        simp only [Act.put, List.setIfInBounds_toArray, List.set_cons_zero, List.set_cons_succ]
        refine k_step (fun K' u => u = .int .i64 1 ∧ K' = fun _ => True) (by apply opN; repeat' (first | apply OpAt.z | apply OpAt.s)) (by rfl) (by rfl) (by rfl) (fun W hC hK => ?_) ?_
        · refine op_x1 (n := .pointer (some ⟨pb, 0, none⟩)) rfl rfl rfl cf_lenF ?_
          refine (slen_any pb qb [(kb, RW.fv yb)] W (hF.out W hC).2.1).mono ?_
          rintro e w' ⟨rfl, rfl⟩
          exact ⟨_, rfl, hC, _, trivial, rfl, rfl⟩
        rintro _ _ ⟨rfl, rfl⟩
        simp only [Act.put, List.setIfInBounds_toArray, List.set_cons_zero, List.set_cons_succ]
        refine k_val (.bool true) (by apply opN; repeat' (first | apply OpAt.z | apply OpAt.s)) (by rfl) (by rfl) (fun _ W hS => op_eqn rfl rfl rfl) ?_
        simp only [Act.put, List.setIfInBounds_toArray, List.set_cons_zero, List.set_cons_succ]
        refine k_val (.bool true) (by apply opN; repeat' (first | apply OpAt.z | apply OpAt.s)) (by rfl) (by rfl) (fun _ W hS => op_pk rfl rfl rfl rfl rfl) ?_
        simp only [Act.put, List.setIfInBounds_toArray, List.set_cons_zero, List.set_cons_succ]
        refine k_val (.bool true) (by apply opN; repeat' (first | apply OpAt.z | apply OpAt.s)) (by rfl) (by rfl) (fun _ W hS => op_mv rfl rfl) ?_
        simp only [Act.put, List.setIfInBounds_toArray, List.set_cons_zero, List.set_cons_succ]
        refine k_val (.bool false) (by apply opN; repeat' (first | apply OpAt.z | apply OpAt.s)) (by rfl) (by rfl) (fun _ W hS => op_mv rfl rfl) ?_
        simp only [Act.put, List.setIfInBounds_toArray, List.set_cons_zero, List.set_cons_succ]
        refine k_val (.bool true) (by apply opN; repeat' (first | apply OpAt.z | apply OpAt.s)) (by rfl) (by rfl) (fun _ W hS => op_noS (p := false) rfl rfl) ?_
        simp only [Act.put, List.setIfInBounds_toArray, List.set_cons_zero, List.set_cons_succ]
        refine k_val (.bool true) (by apply opN; repeat' (first | apply OpAt.z | apply OpAt.s)) (by rfl) (by rfl) (fun _ W hS => op_pk rfl rfl rfl rfl rfl) ?_
        simp only [Act.put, List.setIfInBounds_toArray, List.set_cons_zero, List.set_cons_succ]
        refine k_val (.bool true) (by apply opN; repeat' (first | apply OpAt.z | apply OpAt.s)) (by rfl) (by rfl) (fun _ W hS => op_mv rfl rfl) ?_
        simp only [Act.put, List.setIfInBounds_toArray, List.set_cons_zero, List.set_cons_succ]
        refine k_val (um) (by apply opN; repeat' (first | apply OpAt.z | apply OpAt.s)) (by rfl) (by rfl) (fun _ W hS => op_mv rfl rfl) ?_
        simp only [Act.put, List.setIfInBounds_toArray, List.set_cons_zero, List.set_cons_succ]
        refine k_step (fun K' u => ∃ b, u = .slice (some ⟨b, 0, none⟩) 2 2 ∧ K' = fun W => StrR W (.slice (some ⟨b, 0, none⟩) 2 2) [RW.sA, RW.sB]) (by apply opN; repeat' (first | apply OpAt.z | apply OpAt.s)) (by rfl) (by rfl) (by rfl) (fun W hC hK => ?_) ?_
        · exact xup_val (op_bsAB rfl rfl rfl) ⟨alloc_bel hC (Nat.le_refl _) _, _, rows_lit (enc := fun s => [Value.string s]) (k := 1) W 9 (fun _ => rfl) [RW.sA, RW.sB], W.heap.size, rfl, rfl⟩
        rintro _ _ ⟨b59, rfl, rfl⟩
        simp only [Act.put, List.setIfInBounds_toArray, List.set_cons_zero, List.set_cons_succ]
        as_aux_lemma =>
          refine k_step (fun K' u => u = .bool true ∧ K' = fun _ => True) (by apply opN; repeat' (first | apply OpAt.z | apply OpAt.s)) (by rfl) (by rfl) (by rfl) (fun W hC hK => ?_) ?_
          · refine op_x2F (n := um) (m := .slice (some ⟨b59, 0, none⟩) 2 2) rfl rfl rfl rfl cf_ssF ?_
            refine (ss_any um _ [RW.sA, RW.sB] [RW.sA, RW.sB] W (hF.out W hC).2.2.2.2.2.1 hK (by decide) (by decide)).mono ?_
            rintro e w' ⟨rfl, h⟩
            exact ⟨_, rfl, hC.trans (h.mono hC.size), _, trivial, by rw [decide_eq_true rfl], rfl⟩
          rintro _ _ ⟨rfl, rfl⟩
          simp only [Act.put, List.setIfInBounds_toArray, List.set_cons_zero, List.set_cons_succ]
          refine k_val (.bool true) (by apply opN; repeat' (first | apply OpAt.z | apply OpAt.s)) (by rfl) (by rfl) (fun _ W hS => op_pk rfl rfl rfl rfl rfl) ?_
          simp only [Act.put, List.setIfInBounds_toArray, List.set_cons_zero, List.set_cons_succ]
          refine k_val (.bool true) (by apply opN; repeat' (first | apply OpAt.z | apply OpAt.s)) (by rfl) (by rfl) (fun _ W hS => op_mv rfl rfl) ?_
          simp only [Act.put, List.setIfInBounds_toArray, List.set_cons_zero, List.set_cons_succ]
          refine k_val (.pointer (some ⟨sb, 0, none⟩)) (by apply opN; repeat' (first | apply OpAt.z | apply OpAt.s)) (by rfl) (by rfl) (fun _ W hS => op_mv rfl rfl) ?_
          simp only [Act.put, List.setIfInBounds_toArray, List.set_cons_zero, List.set_cons_succ]
          refine k_val (.slice (some ⟨g, o, none⟩) 2 c) (by apply opN; repeat' (first | apply OpAt.z | apply OpAt.s)) (by rfl) (by rfl) (fun _ W hS => op_mv rfl rfl) ?_
          simp only [Act.put, List.setIfInBounds_toArray, List.set_cons_zero, List.set_cons_succ]
          refine k_step (fun K' u => u = .string R ∧ K' = fun _ => True) (by apply opN; repeat' (first | apply OpAt.z | apply OpAt.s)) (by rfl) (by rfl) (by rfl) (fun W hC hK => ?_) ?_
          · refine op_x1 (n := .pointer (some ⟨sb, 0, none⟩)) rfl rfl rfl cf_rootF ?_
            refine (sroot_any RW.k0F ks hksH.out sb mb C2 (by rw [hCH.out]; show 2 ≤ 1000000; decide) (fun x hx => sz_two hka.out hkb.out x (by rw [hCH.out] at hx; exact hx)) W (hF.out W hC).1.s (hK0.out W (hF.out W hC).1.b)).mono ?_
            rintro e w' ⟨rfl, h⟩
            exact ⟨_, rfl, hC.trans (h.mono hC.size), _, trivial, by rw [hRH.out, hCH.out]; rfl, rfl⟩
          rintro _ _ ⟨rfl, rfl⟩
          simp only [Act.put, List.setIfInBounds_toArray, List.set_cons_zero, List.set_cons_succ]
          refine k_step (fun K' u => u = .string R ∧ K' = fun _ => True) (by apply opN; repeat' (first | apply OpAt.z | apply OpAt.s)) (by rfl) (by rfl) (by rfl) (fun W hC hK => ?_) ?_
          · refine op_x1 (n := .slice (some ⟨g, o, none⟩) 2 c) rfl rfl rfl cf_drF ?_
            refine (droot_any RW.k0F ks hksH.out _ [ka, kb] (by show 2 ≤ 1000000; decide) (fun x hx => sz_two2 hka.out hkb.out x hx) W (hF.out W hC).2.2.2.2.2.2 (hK0.out W (hF.out W hC).1.b)).mono ?_
            rintro e w' ⟨rfl, h⟩
            exact ⟨_, rfl, hC.trans (h.mono hC.size), _, trivial, by rw [hRH.out], rfl⟩
          rintro _ _ ⟨rfl, rfl⟩
          simp only [Act.put, List.setIfInBounds_toArray, List.set_cons_zero, List.set_cons_succ]
          refine k_val (.bool true) (by apply opN; repeat' (first | apply OpAt.z | apply OpAt.s)) (by rfl) (by rfl) (fun _ W hS => op_eqb rfl rfl rfl) ?_
          simp only [Act.put, List.setIfInBounds_toArray, List.set_cons_zero, List.set_cons_succ]
          refine k_val (.bool true) (by apply opN; repeat' (first | apply OpAt.z | apply OpAt.s)) (by rfl) (by rfl) (fun _ W hS => op_pk rfl rfl rfl rfl rfl) ?_
          simp only [Act.put, List.setIfInBounds_toArray, List.set_cons_zero, List.set_cons_succ]
          refine k_val (.bool true) (by apply opN; repeat' (first | apply OpAt.z | apply OpAt.s)) (by rfl) (by rfl) (fun _ W hS => op_mv rfl rfl) ?_
          simp only [Act.put, List.setIfInBounds_toArray, List.set_cons_zero, List.set_cons_succ]
          refine k_val (.pointer (some ⟨sb, 0, none⟩)) (by apply opN; repeat' (first | apply OpAt.z | apply OpAt.s)) (by rfl) (by rfl) (fun _ W hS => op_mv rfl rfl) ?_
          simp only [Act.put, List.setIfInBounds_toArray, List.set_cons_zero, List.set_cons_succ]
          refine k_step (fun K' u => u = .int .i64 2 ∧ K' = fun _ => True) (by apply opN; repeat' (first | apply OpAt.z | apply OpAt.s)) (by rfl) (by rfl) (by rfl) (fun W hC hK => ?_) ?_
          · refine op_x1 (n := .pointer (some ⟨sb, 0, none⟩)) rfl rfl rfl cf_lenF ?_
            refine (slen_any sb mb C2 W (hF.out W hC).1.s).mono ?_
            rintro e w' ⟨rfl, rfl⟩
            exact ⟨_, rfl, hC, _, trivial, by rw [hCH.out]; rfl, rfl⟩
          rintro _ _ ⟨rfl, rfl⟩
          simp only [Act.put, List.setIfInBounds_toArray, List.set_cons_zero, List.set_cons_succ]
          refine k_val (.bool true) (by apply opN; repeat' (first | apply OpAt.z | apply OpAt.s)) (by rfl) (by rfl) (fun _ W hS => op_eqn rfl rfl rfl) ?_
          simp only [Act.put, List.setIfInBounds_toArray, List.set_cons_zero, List.set_cons_succ]
          refine k_val (.bool true) (by apply opN; repeat' (first | apply OpAt.z | apply OpAt.s)) (by rfl) (by rfl) (fun _ W hS => op_pk rfl rfl rfl rfl rfl) ?_
          simp only [Act.put, List.setIfInBounds_toArray, List.set_cons_zero, List.set_cons_succ]
          refine k_val (.bool true) (by apply opN; repeat' (first | apply OpAt.z | apply OpAt.s)) (by rfl) (by rfl) (fun _ W hS => op_mv rfl rfl) ?_
          simp only [Act.put, List.setIfInBounds_toArray, List.set_cons_zero, List.set_cons_succ]
          refine k_val (.pointer (some ⟨tb, 0, none⟩)) (by apply opN; repeat' (first | apply OpAt.z | apply OpAt.s)) (by rfl) (by rfl) (fun _ W hS => op_mv rfl rfl) ?_
          simp only [Act.put, List.setIfInBounds_toArray, List.set_cons_zero, List.set_cons_succ]
          refine k_step (fun K' u => u = .int .i64 1 ∧ K' = fun _ => True) (by apply opN; repeat' (first | apply OpAt.z | apply OpAt.s)) (by rfl) (by rfl) (by rfl) (fun W hC hK => ?_) ?_
          · refine op_x1 (n := .pointer (some ⟨tb, 0, none⟩)) rfl rfl rfl cf_lenF ?_
            refine (slen_any tb nb RW.cD W (hF.out W hC).1.t).mono ?_
            rintro e w' ⟨rfl, rfl⟩
            exact ⟨_, rfl, hC, _, trivial, rfl, rfl⟩
          rintro _ _ ⟨rfl, rfl⟩
          simp only [Act.put, List.setIfInBounds_toArray, List.set_cons_zero, List.set_cons_succ]
          refine k_val (.bool true) (by apply opN; repeat' (first | apply OpAt.z | apply OpAt.s)) (by rfl) (by rfl) (fun _ W hS => op_eqn rfl rfl rfl) ?_
          simp only [Act.put, List.setIfInBounds_toArray, List.set_cons_zero, List.set_cons_succ]
          refine k_val (.bool true) (by apply opN; repeat' (first | apply OpAt.z | apply OpAt.s)) (by rfl) (by rfl) (fun _ W hS => op_pk rfl rfl rfl rfl rfl) ?_
          simp only [Act.put, List.setIfInBounds_toArray, List.set_cons_zero, List.set_cons_succ]
          refine k_val (.bool true) (by apply opN; repeat' (first | apply OpAt.z | apply OpAt.s)) (by rfl) (by rfl) (fun _ W hS => op_asg rfl rfl) ?_
          simp only [Act.put, List.setIfInBounds_toArray, List.set_cons_zero]
          refine k_nil ?_
          intro W' hC _
          have hb := hide (hF.out W' hC).1.b
          clear hF
          go_wp2
          go_ret
          exact ⟨rfl, hb.out⟩
end Go.Proofs.YtnlphbfjeekooaaGreatDoor

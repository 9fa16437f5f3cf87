/-
  Package factset: IDs, Facts: what they return; only new memory is written.
-/
import Derived.Test.YtnlphbfjeekooaaGreatDoorMW
import Derived.Great.BuildSlice
namespace Go.Proofs.YtnlphbfjeekooaaGreatDoor
open Go.RowKit Go.Shelf Go.Sort RG
theorem wpListIn_app_run {P : Program} {F : Fence} {nF : Nat} {ops : Array Oper} {rest : List Oper} {o : Oper} {a : Act} {w : World} {Q : Exit → Act → World → Prop} (hgd : o.guard = none) (s x : Operand) (t : TypeId)
    (ho : o.op = .call { callee := .builtin .append, args := #[s, x], argTypes := #[t, t] }) {v y v' : Value} {w' : World} (hs : a.eval s = v) (hx : a.eval x = y) (hr : (Builtin.append_ #[t, t] o.type #[v, y]).run P w = .ok v' w')
    (k : wpListIn F nF P ops Q rest (a.put o.dst v') w') : wpListIn F nF P ops Q (o :: rest) a w := by
  refine wpListIn_plain hgd fun K hK => ?_
  unfold Oper.wpIn
  refine ⟨by simp [Oper.about, ho, resolve, Target.leads, Sem.run_pure], ?_⟩
  rw [Oper.semAt_plain F _ _ (by rw [ho]; intro c hc'; cases hc')]
  simp [execOp, ho, resolve, invoke, builtin, hs, hx, hr, Result.andThen]
  exact hK _ _ k
theorem callsIn_walked {n : Nat} {P : Program} {f : Nat} {args : Array Value} {w : World} {R : Ending → World → Prop} (h : Calls P f args w R) : CallsIn Fence.wide n P f args w R := callsIn_wide.2 h
/-- what the rounds of a list under way keep: the variable's block, the record's block; the row's own memory lies behind N -/
structure LstJ (w : World) (T : TypeId) (ob L : Nat) (rec : Loop) (own : World → Nat → Nat → Value → Prop) (N j : Nat) (W : World) : Prop where
  var : ∃ u, W.heap[ob]? = some (.cells #[u] T (0, 0)) ∧ own W N j u
  lp : W.heap[L + 1]? = some (.loop rec)
  df : W.heap[L]? = some (.deferred (some []))
  bel : Below w.heap.size w W
attribute [local go_sem] Oper.semAt_some
set_option maxRecDepth 100000 in
set_option maxHeartbeats 4000000 in
theorem sids_any (sb mb : Nat) (C : RW.Ents) (hC : C.length ≤ 1000000) (w : World) (hS : SetAt w sb mb C) :
    Calls Tryz.prog 14 #[.pointer (some ⟨sb, 0, none⟩)] w fun e w' => ∃ u, e = .returned u ∧ StrsOwn w' w.heap.size u (C.map (·.1)) ∧ Below w.heap.size w w' := by
  obtain ⟨ks, hks⟩ : ∃ ks, ks = C.map (·.1) := ⟨_, rfl⟩
  have hksH := hide hks
  rw [← hks]
  clear hks
  refine (callsIn_wide (n := 5)).1 ?_
  refine callsIn_of_wp_marks Tryz.func14 rfl trivial ?_ rfl
  simp only [Tryz.ntmps14, List.size_toArray, List.length_cons, List.length_nil, Nat.reduceAdd, Nat.reduceSub, Array.replicate_succ, Array.replicate_zero, List.push_toArray, List.append_toArray, List.nil_append, List.cons_append]
  obtain ⟨ob, hob⟩ : ∃ b, b = w.heap.size := ⟨_, rfl⟩
  have hobH := hide hob
  have hal := fun W => hide (sall_any (some ⟨sb, 0, none⟩) W)
  gi_wp2
  refine ⟨trivial, (callsIn_wide.2 (hal _).out).mono ?_⟩
  rintro e w1 ⟨rfl, rfl⟩
  clear hal
  gi_wp2
  obtain ⟨L, hL⟩ : ∃ L, L = w.heap.size + 1 + 1 := ⟨_, rfl⟩
  obtain ⟨w0, hw0⟩ : ∃ w0, w0 = (w.alloc (.cells #[.slice none 0 0] 27)).alloc (.cells #[.pointer (some ⟨sb, 0, none⟩)] 25) := ⟨_, rfl⟩
  rw [← hw0]
  have hB0 := hide (show Below w.heap.size w w0 by rw [hw0]; exact alloc_bel (alloc_bel (Below.refl _ _) (Nat.le_refl _) _) (by simp) _)
  have hs0 := hide (show w0.heap.size = L by rw [hw0, hL]; simp)
  have hv0 := hide (show w0.heap[ob]? = some (.cells #[.slice none 0 0] 27 (0, 0)) by rw [hw0, hob]; exact (Below.heap_alloc _ _ _ (by simp)).trans (alloc_at1 _ _))
  have hc0 := hide (show w0.heap[ob + 1]? = some (.cells #[.pointer (some ⟨sb, 0, none⟩)] 25 (0, 0)) by rw [hw0, hob]; exact newAt (by simp))
  have hLo := hide (show L = ob + 2 by rw [hL, hob])
  rw [← hob]
  have hS0 := hide (hS.next hB0.out)
  have hCn := hide (And.intro hS.asc (show (C.map (·.1)).length ≤ 1000000 by rw [List.length_map]; exact hC))
  rw [← hksH.out] at hCn
  clear hw0 hL hS hob
  refine wpIn_rf rfl (by omega) (gf := 66) (lb := #[.pointer (some ⟨ob + 1, 0, none⟩)]) rfl trivial (enters_of Tryz.func66 (by kernel_rfl) rfl) ?_
  intro fn hfn W1 hW1 hL1 hK1
  rw [hs0.out] at hW1 hL1 hK1 ⊢
  have hs1 := hide (show W1.heap.size = L + 2 by rw [hW1]; simp [hs0.out])
  have hB1 := hide (show Below w0.heap.size w0 W1 by rw [hW1]; exact alloc_bel (alloc_bel (Below.refl _ _) (Nat.le_refl _) _) (Nat.le_refl _) _)
  clear hW1
  generalize hrec : ({ state := .ready, pending := none, fn, tmps := _, params := _, assign := _, body := _, defers := L } : Loop) = rec at hL1 ⊢
  have hv1 := hide ((hB1.out.block ob (by rw [hs0.out, hLo.out]; omega)).trans hv0.out)
  have hc1 := hide ((hB1.out.block (ob + 1) (by rw [hs0.out, hLo.out]; omega)).trans hc0.out)
  have hBw := hide (hB0.out.trans (hB1.out.mono hB0.out.size))
  have hS1 := hide (hS0.out.next hB1.out)
  have hLH := hide hL1
  have hKH := hide hK1
  clear hL1 hK1 hB0 hv0 hc0 hB1 hS0
  have hmap := hide (show C.length = ks.length by rw [hksH.out, List.length_map])
  refine (all1_in 4 (by omega) sb mb C hC (ob + 1) ob (L + 1) (LstJ w 27 ob L rec fun W N j u => StrsOwn W N u (ks.take j)) W1 hc1.out hS1.out (by rw [hs1.out, hLo.out]; omega) (by omega) ?_ ?_ ?_ ?_ ?_).mono ?_
  · have := hS1.out.row
    intro e
    rw [← e, hv1.out] at this
    cases this
  · exact hS1.out.nem hv1.out
  · intro W' hB
    refine ⟨⟨.slice none 0 0, (hB.block _ (Array.getElem?_eq_some_iff.1 hv1.out).1).trans hv1.out, ?_⟩, (hB.block _ (Array.getElem?_eq_some_iff.1 hLH.out).1).trans hLH.out, (hB.block _ (Array.getElem?_eq_some_iff.1 hKH.out).1).trans hKH.out, hBw.out.trans (hB.mono hBw.out.size)⟩
    rw [List.take_zero]
    exact strs_nil _ _
  · rintro N j Wa Wb ⟨⟨u, g1, g2⟩, g3, g4, g5⟩ hB
    exact ⟨⟨u, (hB.block _ (Array.getElem?_eq_some_iff.1 g1).1).trans g1, own_keep g2 fun g hg => hB.block g (own_blk g2 hg).2.1⟩, (hB.block _ (Array.getElem?_eq_some_iff.1 g3).1).trans g3, (hB.block _ (Array.getElem?_eq_some_iff.1 g4).1).trans g4, g5.trans (hB.mono g5.size)⟩
  · rintro N j k vv W hN hjk hNs ⟨⟨u, g1, g2⟩, g3, g4, g5⟩
    have hkj : ks[j]? = some k := by rw [hksH.out, List.getElem?_map, hjk]; rfl
    have hjl : j < ks.length := (List.getElem?_eq_some_iff.1 hkj).1
    have e1 := congrArg Loop.assign hrec
    have e2 := congrArg Loop.body hrec
    have e3 := congrArg Loop.params hrec
    have e4 := congrArg Loop.tmps hrec
    have e5 := congrArg Loop.fn hrec
    have e6 := congrArg Loop.state hrec
    have e7 := congrArg Loop.pending hrec
    dsimp only at e1 e2 e3 e4 e5 e6 e7
    have eH := hide (And.intro e1 (And.intro e2 (And.intro e3 (And.intro e4 (And.intro e6 e7)))))
    have hl := hide g3
    refine yieldAt_body g3 e6.symm (by rw [← e3]; rfl) (by rw [← e5]; exact hfn) ?_
    rw [← e1, ← e2, ← e3, ← e4]
    clear e1 e2 e3 e4 e5 e6 e7 hrec g3
    have g1 := hide g1
    have g2 := hide g2
    have g4 := hide g4
    have g5 := hide g5
    have hNL := hide (show ob < L ∧ L + 1 < N by have := hs1.out; have := hLo.out; omega)
    gi_wp2
    refine ⟨hl.out, ?_⟩
    intro W2 busy hbusy hl2 hg2
    have hrdy : Hid (({ busy with state := .ready, pending := none } : Loop) = rec) := by
      obtain ⟨e1, e2, e3, e4, e6, e7⟩ := eH.out
      show _ = _
      rw [hbusy]; cases rec; simp_all
    clear hbusy eH
    have hoth := hide (show ∀ i, i < W.heap.size → i ≠ L + 1 → W2.heap[i]? = W.heap[i]? from fun i hi hne => hg2.block i hi (by simp; omega))
    have hsz := hide hg2.size
    have ho2 := hide (show StrsOwn W2 N u (ks.take j) from own_keep g2.out fun g hg => hoth.out g (own_blk g2.out hg).2.1 (by have := (own_blk g2.out hg).1; have := hNL.out; omega))
    have hv2 := hide ((hoth.out ob (Array.getElem?_eq_some_iff.1 g1.out).1 (by have := hNL.out; omega)).trans g1.out)
    have hd2 := hide ((hoth.out L (Array.getElem?_eq_some_iff.1 g4.out).1 (by omega)).trans g4.out)
    have hl2H := hide hl2
    have hOs := hide (And.intro hg2.os (And.intro hg2.tape hg2.output))
    have hN2 : N ≤ W2.heap.size := Nat.le_trans hNs hg2.size
    obtain ⟨v', W3, hrun, ho3, hch, hvb⟩ := run_app_str k ho2.out hN2 (by rw [List.length_take]; have := hCn.out.2; omega)
    obtain ⟨va, vc, e'⟩ := own_shape ho3
    obtain ⟨nl, hnl⟩ : ∃ n, n = (ks.take j ++ [k]).length := ⟨_, rfl⟩
    rw [← hnl] at e'
    subst e'
    clear hnl
    have hne : u.ownBlock ≠ some ob := fun e => by have := (own_blk ho2.out e).1; have := hNL.out; omega
    have hv3 := hide ((hch.block ob (Array.getElem?_eq_some_iff.1 hv2.out).1 hne).trans hv2.out)
    have hl3 := hide ((hch.block (L + 1) (Array.getElem?_eq_some_iff.1 hl2H.out).1 (fun e => by have := (own_blk ho2.out e).1; have := hNL.out; omega)).trans hl2H.out)
    have hd3 := hide ((hch.block L (Array.getElem?_eq_some_iff.1 hd2.out).1 (fun e => by have := (own_blk ho2.out e).1; have := hNL.out; omega)).trans hd2.out)
    have ho3 := hide ho3
    have hch := hide hch
    have cv2 := cellAt hv2.out 0
    have cv3 := cellAt hv3.out 0
    have fv3 : W3.frozen? ⟨ob, 0, none⟩ = false := unfrozen hv3.out
    clear hl2 hg2 hvb
    gi_wp2_with (gi_at_builtin; refine wpListIn_app_run rfl _ _ 27 rfl rfl rfl hrun ?_)
    have hc : ChgS (fun i => i = ob ∨ i = L + 1 ∨ N ≤ i) W ((W3.setCell ⟨ob, 0, none⟩ (.slice va nl vc)).putObj (L + 1) (.loop rec)) := by
      have c1 : ChgS (fun i => i = ob ∨ i = L + 1 ∨ N ≤ i) W W2 := ⟨hOs.out.1, hOs.out.2.1, hOs.out.2.2, hsz.out, fun i hi hn => hoth.out i hi fun h => hn (.inr (.inl h))⟩
      have c2 := c1.trans (hch.out.impF fun i hi => .inr (.inr (own_blk ho2.out hi).1))
      exact (c2.set (.inl rfl) _).grown (grownBy_putObj' _ (L + 1) _) (fun i hi => by cases hi; exact .inr (.inl rfl))
    have hL3 := (Array.getElem?_eq_some_iff.1 hl3.out).1
    have hN1 := hNL.out
    refine ⟨(Below.heap_setCell _ _ _ _ (by show L + 1 ≠ ob; omega)).trans hl3.out, ?_⟩
    rw [hrdy.out]
    refine ⟨rfl, ⟨⟨.slice va nl vc, (World.putObj_heap_other (by omega)).trans (heap_setCell_same _ _ _ _ _ _ hv3.out), ?_⟩, World.putObj_heap_same (by simpa using hL3), (World.putObj_heap_other (by omega)).trans ((Below.heap_setCell _ _ _ _ (by show L ≠ ob; omega)).trans hd3.out), g5.out.trans (hc.belowJ (fun i hi => by have := hobH.out; rcases hi with h | h | h <;> omega) g5.out.size)⟩, ?_⟩
    · rw [RW.take_snocB hkj]
      exact own_keep ho3.out fun g hg => by
        have := (own_blk ho3.out hg).1
        exact (World.putObj_heap_other (by omega)).trans (Below.heap_setCell _ _ _ _ (by show g ≠ ob; omega))
    · refine ⟨hc.os, hc.tape, hc.output, hc.size, fun i hi hn => ?_⟩
      by_cases h : i = L + 1
      · subst h
        exact (World.putObj_heap_same (by simpa using hL3)).trans hl.out.symm
      · exact hc.block i hi (fun h1 => h1.elim (fun h1 => hn (.inl h1)) fun h1 => h1.elim h fun h1 => hn (.inr h1))
  · rintro e W2 ⟨⟨u, rfl⟩, N, hN, ⟨⟨uu, g1, g2⟩, g3, g4, g5⟩, _⟩
    have e6 := congrArg Loop.state hrec
    have e7 := congrArg Loop.pending hrec
    dsimp only at e6 e7
    refine ⟨⟨u, rfl⟩, rec, g3, by rw [← e6]; decide, .inl ⟨e7.symm, ?_⟩⟩
    clear e6 e7 hrec
    intro W3 oo hW3
    have hg3 := grownBy_putObj' W2 (L + 1) oo
    rw [← hW3] at hg3
    have hNL := hs1.out
    have hLo' := hLo.out
    have hob' := hobH.out
    have hv3 := (hg3.block ob (Array.getElem?_eq_some_iff.1 g1).1 (by simp; omega)).trans g1
    have hk3 := hide ((hg3.block L (Array.getElem?_eq_some_iff.1 g4).1 (by simp)).trans g4)
    have hB3 := hide (g5.grown hg3 g5.size (fun k e => by cases e; omega))
    have ho3 := hide (show StrsOwn W3 N uu (ks.take C.length) from own_keep g2 fun g hg => hg3.block g (own_blk g2 hg).2.1 (by have := (own_blk g2 hg).1; simp; omega))
    have cv3 := cellAt hv3 0
    clear hW3 hg3 g1 g2 g3 g4 g5 hNL hLo' hob'
    gi_wp2
    refine ⟨by simp, .inl ⟨_, _, rfl, run_takeDeferred hk3.out, ?_⟩⟩
    exact ⟨_, results_tmp rfl _ _ _, _, rfl, by
      have h := ho3.out
      rw [hmap.out, List.take_length] at h
      have h1 := hs1.out
      have h2 := hLo.out
      have h3 := hobH.out
      exact own_keep (own_mono h (by omega)) fun g hg => World.putObj_heap_other (by have := (own_blk h hg).1; omega), hB3.out.grown (grownBy_putObj' _ _ _) hB3.out.size (fun k e => by cases e; have := hLo.out; have := hobH.out; omega)⟩
end Go.Proofs.YtnlphbfjeekooaaGreatDoor

/-
  Package factset: Facts: what it returns; only new memory is written.
-/
namespace Go.Proofs.YtnlphbfjeekooaaGreatDoor
open Go.RowKit Go.Shelf Go.Sort RG
attribute [local go_sem] Oper.semAt_some
theorem info_factF : (Tryz.prog.info? 38).map (fun i => (i.zero, i.size, i.bytes)) = some (some (.agg (RW.fcells (fun _ => 0) ⟨#[]⟩)), 18, 152) := by kernel_rfl
theorem fce_oneF (x : RW.Fc) : ∀ u ∈ RW.fce x, u.oneCell' = true := by
  have := fcells_oneF x.1 x.2
  rw [Array.all_eq_true'] at this
  intro u hu
  exact this u (by unfold RW.fce at hu; simpa using hu)
/-- a row of facts that the call made; a value that is a list of facts -/
abbrev OwnF (W : World) (B : Nat) (v : Value) (l : List RW.Fc) : Prop := W.ownsRow B 38 18 v l.length (rowCells RW.fce l)
abbrev FactsV (W : World) (v : Value) (l : List RW.Fc) : Prop := RowV 18 RW.fce W v l
theorem OwnF.facts {W : World} {B : Nat} {v : Value} {l : List RW.Fc} (h : OwnF W B v l) : FactsV W v l := rowV_own fcl_len (by decide) h
theorem app_factsF {W : World} {B : Nat} {v y : Value} {l m : List RW.Fc} (hown : OwnF W B v l) (hB : B ≤ W.heap.size) (hy : FactsV W y m) (hlen : l.length + m.length ≤ 1000000) (ty : TypeId) :
    ∃ v' W', (Builtin.append_ #[22, 22] ty #[v, y]).run Tryz.prog W = .ok v' W' ∧ OwnF W' B v' (l ++ m) ∧ Below B W W' ∧ W.grownBy W' v.ownBlock :=
  run_app_rows (P := Tryz.prog) ty Tryz.underlying22 info_factF (by rfl) (by decide) fcl_len fce_oneF hown hB hy (by unfold maxLen; omega) (by omega)
theorem stRow_fact (x y : Value) : Instr.storeAt 38 x y = stRow 38 x y := rfl
theorem stRow_eqF (w : World) (g : Nat) (cells : Array Value) (t ty : TypeId) (old : Array Value) (hg : w.heap[g]? = some (.cells old t (0, 0))) (hi : (Tryz.prog.info? ty).map (·.size) = some cells.size)
    (hold : old.size = cells.size) (h1 : cells.all (·.oneCell') = true) : (stRow ty (.pointer (some ⟨g, 0, none⟩)) (.agg cells)).run Tryz.prog w = .ok () (w.setRow g cells) := by
  simp only [stRow, Instr.storeAt, Instr.sureAddr, Sem.run_bind, Sem.run_pure, Result.andThen_ok, run_storeVar_row w g t ty old cells hg hi hold h1]
theorem stRow_newF (W : World) (y : RW.Fc) : (stRow 38 (.pointer (some ⟨W.heap.size, 0, none⟩)) (.agg (RW.fcells y.1 y.2))).run Tryz.prog (W.alloc (.cells (RW.fcells (fun _ => 0) ⟨#[]⟩) 38)) = .ok () (W.alloc (.cells (RW.fcells y.1 y.2) 38)) := by
  have h := stRow_eqF (W.alloc (.cells (RW.fcells (fun _ => 0) ⟨#[]⟩) 38)) W.heap.size (RW.fcells y.1 y.2) 38 38 _ (alloc_at1 _ _) (fact_infoF y.1 y.2) rfl (fcells_oneF y.1 y.2)
  rw [setRow_allocF] at h
  exact h
theorem take_snocF {α : Type} {l : List α} {j : Nat} {x : α} (h : l[j]? = some x) : l.take (j + 1) = l.take j ++ [x] := by
  obtain ⟨h1, h2⟩ := List.getElem?_eq_some_iff.1 h
  rw [List.take_succ_eq_append_getElem h1, h2]
/-- one fact after another -/
theorem app_oneF {W : World} {B : Nat} {v : Value} {l : List RW.Fc} (y : RW.Fc) (hown : OwnF W B v l) (hB : B ≤ W.heap.size) (hlen : l.length ≤ 999999) :
    ∃ v' W', (Builtin.append_ #[22, 22] 22 #[v, .slice (some ⟨W.heap.size, 0, none⟩) 1 1]).run Tryz.prog (W.alloc (.cells (RW.fcells y.1 y.2) 38)) = .ok v' W' ∧ OwnF W' B v' (l ++ [y]) ∧ ChgS (fun j => v.ownBlock = some j) W W' := by
  have hA := alloc_bel (Below.refl W.heap.size W) (Nat.le_refl _) (.cells (RW.fcells y.1 y.2) 38)
  have h1 : OwnF (W.alloc (.cells (RW.fcells y.1 y.2) 38)) B v l := own_keep hown fun g hg => hA.block _ (own_blk hown hg).2.1
  have hl := rows_lit W 38 fcl_len [y]
  rw [show (rowCells RW.fce [y]).toArray = RW.fcells y.1 y.2 by unfold rowCells RW.fce; simp] at hl
  obtain ⟨v', W', hr, ho, _, hg⟩ := app_factsF h1 (Nat.le_trans hB hA.size) hl (by simp; omega) 22
  exact ⟨v', W', hr, ho, ⟨hg.os, hg.tape, hg.output, Nat.le_trans hA.size hg.size, fun k hk hn => (hg.block k (Nat.lt_of_lt_of_le hk hA.size) fun e => hn e.symm).trans (hA.block k hk)⟩⟩
set_option maxRecDepth 100000 in
theorem op_bs_f {ev : Operand → Value} {o : Oper} {x : Operand} {w : World} {y : RW.Fc} (ho : o.op = .buildSlice 22 1 #[(0, x)]) (hx : ev x = .agg (RW.fcells y.1 y.2)) : (execOp ev o).run Tryz.prog w = .ok (.value (.slice (some ⟨w.heap.size, 0, none⟩) 1 1)) (w.alloc (.cells (RW.fcells y.1 y.2) 38)) := by
  obtain ⟨i0, hi, hz0, hz1, hz2⟩ := info_parts info_factF
  unfold execOp
  rw [ho]
  simp only [Sem.run_bind]
  rw [run_buildSlice w 22 38 1 _ (RW.fcells y.1 y.2) i0 _ Tryz.underlying22 hi hz0 (by rw [hz1]; decide) (by rw [hz1]; decide) (by
    rw [hz1]
    simp only [List.map_toArray, List.map_cons, List.map_nil, hx]
    kernel_rfl)]
  rfl
theorem wpListIn_bs_f {F : Fence} {nF : Nat} {ops : Array Oper} {rest : List Oper} {o : Oper} {a : Act} {w : World} {Q : Exit → Act → World → Prop} (hgd : o.guard = none) (x : Operand) (ho : o.op = .buildSlice 22 1 #[(0, x)]) (y : RW.Fc) (cs : Array Value) (hcs : cs = RW.fcells y.1 y.2) (hx : a.eval x = .agg cs)
    (k : wpListIn F nF Tryz.prog ops Q rest (a.put o.dst (.slice (some ⟨w.heap.size, 0, none⟩) 1 1)) (w.alloc (.cells cs 38))) : wpListIn F nF Tryz.prog ops Q (o :: rest) a w := by
  subst hcs
  refine wpListIn_plain hgd fun K hK => ?_
  unfold Oper.wpIn
  refine ⟨by simp [Oper.about, ho], ?_⟩
  rw [Oper.semAt_plain F _ _ (by rw [ho]; intro c hc'; cases hc'), op_bs_f ho hx]
  exact hK _ _ k
attribute [local go_sem ↓] ldRow_fact stRow_fact
set_option maxRecDepth 100000 in
set_option maxHeartbeats 4000000 in
theorem sfacts_any (sb mb : Nat) (C : RW.Ents) (ks : List RW.Fc) (hks : C.map (·.2) = ks.map RW.fv) (hC : C.length ≤ 1000000) (w : World) (hS : SetAt w sb mb C) :
    Calls Tryz.prog 30 #[.pointer (some ⟨sb, 0, none⟩)] w fun e w' => ∃ u, e = .returned u ∧ OwnF w' w.heap.size u ks ∧ Below w.heap.size w w' := by
  have hksH := hide hks
  have hmap := hide (show C.length = ks.length by have := congrArg List.length hks; simpa using this)
  clear hks
  refine (callsIn_wide (n := 5)).1 ?_
  refine callsIn_of_wp_marks Tryz.func30 rfl trivial ?_ rfl
  simp only [Tryz.ntmps30, List.size_toArray, List.length_cons, List.length_nil, Nat.reduceAdd, Nat.reduceSub, Array.replicate_succ, Array.replicate_zero, List.push_toArray, List.append_toArray, List.nil_append, List.cons_append]
  obtain ⟨ob, hob⟩ : ∃ b, b = w.heap.size := ⟨_, rfl⟩
  have hobH := hide hob
  have hal := fun W => hide (sall_any (some ⟨sb, 0, none⟩) W)
  gi_wp2
  refine ⟨trivial, (callsIn_wide.2 (hal _).out).mono ?_⟩
  rintro e w1 ⟨rfl, rfl⟩
  clear hal
  gi_wp2
  obtain ⟨L, hL⟩ : ∃ L, L = w.heap.size + 1 + 1 := ⟨_, rfl⟩
  obtain ⟨w0, hw0⟩ : ∃ w0, w0 = (w.alloc (.cells #[.slice none 0 0] 22)).alloc (.cells #[.pointer (some ⟨sb, 0, none⟩)] 25) := ⟨_, rfl⟩
  rw [← hw0]
  have hB0 := hide (show Below w.heap.size w w0 by rw [hw0]; exact alloc_bel (alloc_bel (Below.refl _ _) (Nat.le_refl _) _) (by simp) _)
  have hs0 := hide (show w0.heap.size = L by rw [hw0, hL]; simp)
  have hv0 := hide (show w0.heap[ob]? = some (.cells #[.slice none 0 0] 22 (0, 0)) by rw [hw0, hob]; exact (Below.heap_alloc _ _ _ (by simp)).trans (alloc_at1 _ _))
  have hc0 := hide (show w0.heap[ob + 1]? = some (.cells #[.pointer (some ⟨sb, 0, none⟩)] 25 (0, 0)) by rw [hw0, hob]; exact newAt (by simp))
  have hLo := hide (show L = ob + 2 by rw [hL, hob])
  rw [← hob]
  have hS0 := hide (hS.next hB0.out)
  have hCn := hide (And.intro hS.asc (show ks.length ≤ 1000000 by rw [← hmap.out]; exact hC))
  clear hw0 hL hS hob
  refine wpIn_rf rfl (by omega) (gf := 66) (lb := #[.pointer (some ⟨ob + 1, 0, none⟩)]) rfl trivial (enters_of Tryz.func66 (by kernel_rfl) rfl) ?_
  intro fn hfn W1 hW1 hL1 hK1
  rw [hs0.out] at hW1 hL1 hK1 ⊢
  have hs1 := hide (show W1.heap.size = L + 2 by rw [hW1]; simp [hs0.out])
  have hB1 := hide (show Below w0.heap.size w0 W1 by rw [hW1]; exact alloc_bel (alloc_bel (Below.refl _ _) (Nat.le_refl _) _) (Nat.le_refl _) _)
  clear hW1
  generalize hrec : ({ state := .ready, pending := none, fn, tmps := _, params := _, assign := _, body := _, defers := L } : Loop) = rec at hL1 ⊢
  have hv1 := hide ((hB1.out.block ob (by rw [hs0.out, hLo.out]; omega)).trans hv0.out)
  have hc1 := hide ((hB1.out.block (ob + 1) (by rw [hs0.out, hLo.out]; omega)).trans hc0.out)
  have hBw := hide (hB0.out.trans (hB1.out.mono hB0.out.size))
  have hS1 := hide (hS0.out.next hB1.out)
  have hLH := hide hL1
  have hKH := hide hK1
  clear hL1 hK1 hB0 hv0 hc0 hB1 hS0
  refine (all1_in 4 (by omega) sb mb C hC (ob + 1) ob (L + 1) (LstJ w 22 ob L rec fun W N j u => OwnF W N u (ks.take j)) W1 hc1.out hS1.out (by rw [hs1.out, hLo.out]; omega) (by omega) ?_ ?_ ?_ ?_ ?_).mono ?_
  · have := hS1.out.row
    intro e
    rw [← e, hv1.out] at this
    cases this
  · exact hS1.out.nem hv1.out
  · intro W' hB
    refine ⟨⟨.slice none 0 0, (hB.block _ (Array.getElem?_eq_some_iff.1 hv1.out).1).trans hv1.out, ?_⟩, (hB.block _ (Array.getElem?_eq_some_iff.1 hLH.out).1).trans hLH.out, (hB.block _ (Array.getElem?_eq_some_iff.1 hKH.out).1).trans hKH.out, hBw.out.trans (hB.mono hBw.out.size)⟩
    rw [List.take_zero]
    exact ⟨rfl, .inl ⟨rfl, rfl⟩⟩
  · rintro N j Wa Wb ⟨⟨u, g1, g2⟩, g3, g4, g5⟩ hB
    exact ⟨⟨u, (hB.block _ (Array.getElem?_eq_some_iff.1 g1).1).trans g1, own_keep g2 fun g hg => hB.block g (own_blk g2 hg).2.1⟩, (hB.block _ (Array.getElem?_eq_some_iff.1 g3).1).trans g3, (hB.block _ (Array.getElem?_eq_some_iff.1 g4).1).trans g4, g5.trans (hB.mono g5.size)⟩
  · rintro N j k vv W hN hjk hNs ⟨⟨u, g1, g2⟩, g3, g4, g5⟩
    obtain ⟨y, hkj, hyv⟩ : ∃ y, ks[j]? = some y ∧ vv = RW.fv y := by
      have h := congrArg (fun l => l[j]?) hksH.out
      rw [List.getElem?_map, List.getElem?_map, hjk] at h
      cases hq : ks[j]? with
      | none => rw [hq] at h; cases h
      | some y => rw [hq] at h; exact ⟨y, rfl, Option.some.inj h⟩
    have hjl : j < ks.length := (List.getElem?_eq_some_iff.1 hkj).1
    have e1 := congrArg Loop.assign hrec
    have e2 := congrArg Loop.body hrec
    have e3 := congrArg Loop.params hrec
    have e4 := congrArg Loop.tmps hrec
    have e5 := congrArg Loop.fn hrec
    have e6 := congrArg Loop.state hrec
    have e7 := congrArg Loop.pending hrec
    dsimp only at e1 e2 e3 e4 e5 e6 e7
    have eH := hide (And.intro e1 (And.intro e2 (And.intro e3 (And.intro e4 (And.intro e6 e7)))))
    have hl := hide g3
    refine yieldAt_body g3 e6.symm (by rw [← e3]; rfl) (by rw [← e5]; exact hfn) ?_
    rw [← e1, ← e2, ← e3, ← e4]
    clear e1 e2 e3 e4 e5 e6 e7 hrec g3
    have g1 := hide g1
    have g2 := hide g2
    have g4 := hide g4
    have g5 := hide g5
    have hNL := hide (show ob < L ∧ L + 1 < N by have := hs1.out; have := hLo.out; omega)
    obtain ⟨cs, hcs⟩ : ∃ cs, cs = RW.fcells y.1 y.2 := ⟨_, rfl⟩
    have hcsH := hide hcs
    rw [show RW.fv y = .agg cs by rw [hcs]; rfl] at hyv
    subst hyv
    have hcn := hide (show cs.size = 18 by rw [hcs]; rfl)
    have hst := hide (fun (W : World) => (show (stRow 38 (.pointer (some ⟨W.heap.size, 0, none⟩)) (.agg cs)).run Tryz.prog (W.alloc (.cells (RW.fcells (fun _ => 0) ⟨#[]⟩) 38)) = .ok () (W.alloc (.cells cs 38)) from by rw [hcs]; exact stRow_newF W y))
    unfold RW.fcells at hst
    have hst1 := hst.out W
    have hA := hide (alloc_bel (Below.refl W.heap.size W) (Nat.le_refl _) (.cells cs 38))
    have hcw := hide (show (W.alloc (.cells cs 38)).heap[W.heap.size]? = some (.cells cs 38 (0, 0)) from alloc_at1 _ _)
    clear hcs hst
    gi_wp2
    have hwl := hide (show (W.alloc (.cells cs 38)).heap.size = W.heap.size + 1 by simp)
    obtain ⟨Wa, hWa⟩ : ∃ x, x = W.alloc (.cells cs 38) := ⟨_, rfl⟩
    rw [← hWa] at hA hcw hwl ⊢
    clear hWa hst1
    have hlA := hide ((hA.out.block _ (Array.getElem?_eq_some_iff.1 hl.out).1).trans hl.out)
    refine ⟨hlA.out, ?_⟩
    obtain ⟨nb, hnb⟩ : ∃ b, b = W.heap.size := ⟨_, rfl⟩
    have hnbH := hide hnb
    rw [← hnb] at hcw ⊢
    clear hnb
    intro W2 hl2 hg2
    generalize hbusy : ({ state := LoopState.busy, pending := _, fn := _, tmps := _, params := _, assign := _, body := _, defers := _ } : Loop) = busy at hl2 ⊢
    have hrdy : Hid (({ busy with state := .ready, pending := none } : Loop) = rec) := by
      obtain ⟨e1, e2, e3, e4, e6, e7⟩ := eH.out
      show _ = _
      rw [← hbusy]; cases rec; simp_all
    clear hbusy eH
    have hoth := hide (show ∀ i, i < W.heap.size → i ≠ L + 1 → W2.heap[i]? = W.heap[i]? from fun i hi hne => (hg2.block i (by rw [hwl.out]; omega) (by simp; omega)).trans (hA.out.block i hi))
    have hsz := hide (show W.heap.size ≤ W2.heap.size from Nat.le_trans hA.out.size hg2.size)
    have ho2 := hide (show OwnF W2 N u (ks.take j) from own_keep g2.out fun g hg => hoth.out g (own_blk g2.out hg).2.1 (by have := (own_blk g2.out hg).1; have := hNL.out; omega))
    have hv2 := hide ((hoth.out ob (Array.getElem?_eq_some_iff.1 g1.out).1 (by have := hNL.out; omega)).trans g1.out)
    have hd2 := hide ((hoth.out L (Array.getElem?_eq_some_iff.1 g4.out).1 (by omega)).trans g4.out)
    have hl2H := hide hl2
    have hOs := hide (And.intro (hg2.os.trans hA.out.os) (And.intro (hg2.tape.trans hA.out.tape) (hg2.output.trans hA.out.output)))
    have hnl : nb ≠ L + 1 := by have := hnbH.out; have := hNL.out; omega
    have hf2 := hide ((hg2.block nb (Array.getElem?_eq_some_iff.1 hcw.out).1 (by simp; omega)).trans hcw.out)
    have lf2 := fact_ldF hf2.out hcn.out
    have hN2 : N ≤ W2.heap.size := Nat.le_trans hNs hsz.out
    obtain ⟨v', W3, hrun, ho3, hch⟩ := app_oneF y ho2.out hN2 (by rw [List.length_take]; have := hCn.out.2; omega)
    rw [← hcsH.out] at hrun
    obtain ⟨va, vc, e'⟩ := own_shape ho3
    obtain ⟨nl, hnl2⟩ : ∃ n, n = (ks.take j ++ [y]).length := ⟨_, rfl⟩
    rw [← hnl2] at e'
    subst e'
    clear hnl2 hnl
    have hne : u.ownBlock ≠ some ob := fun e => by have := (own_blk ho2.out e).1; have := hNL.out; omega
    have hv3 := hide ((hch.block ob (Array.getElem?_eq_some_iff.1 hv2.out).1 hne).trans hv2.out)
    have hl3 := hide ((hch.block (L + 1) (Array.getElem?_eq_some_iff.1 hl2H.out).1 (fun e => by have := (own_blk ho2.out e).1; have := hNL.out; omega)).trans hl2H.out)
    have hd3 := hide ((hch.block L (Array.getElem?_eq_some_iff.1 hd2.out).1 (fun e => by have := (own_blk ho2.out e).1; have := hNL.out; omega)).trans hd2.out)
    have ho3 := hide ho3
    have hch := hide hch
    have cv2 := cellAt hv2.out 0
    have cv3 := cellAt hv3.out 0
    have fv3 : W3.frozen? ⟨ob, 0, none⟩ = false := unfrozen hv3.out
    have hcs2 := hide hcsH.out
    clear hl2 hg2
    gi_wp2_with (first
      | (refine wpListIn_bs_f rfl (.tmp 11) rfl y cs hcs2.out rfl ?_)
      | (gi_at_builtin; refine wpListIn_app_run rfl _ _ 22 rfl rfl rfl hrun ?_))
    have hc : ChgS (fun i => i = ob ∨ i = L + 1 ∨ N ≤ i) W ((W3.setCell ⟨ob, 0, none⟩ (.slice va nl vc)).putObj (L + 1) (.loop rec)) := by
      have c1 : ChgS (fun i => i = ob ∨ i = L + 1 ∨ N ≤ i) W W2 := ⟨hOs.out.1, hOs.out.2.1, hOs.out.2.2, hsz.out, fun i hi hn => hoth.out i hi fun h => hn (.inr (.inl h))⟩
      have c2 := c1.trans (hch.out.impF fun i hi => .inr (.inr (own_blk ho2.out hi).1))
      exact (c2.set (.inl rfl) _).grown (grownBy_putObj' _ (L + 1) _) (fun i hi => by cases hi; exact .inr (.inl rfl))
    have hL3 := (Array.getElem?_eq_some_iff.1 hl3.out).1
    have hN1 := hNL.out
    refine ⟨(Below.heap_setCell _ _ _ _ (by show L + 1 ≠ ob; omega)).trans hl3.out, ?_⟩
    rw [hrdy.out]
    refine ⟨rfl, ⟨⟨.slice va nl vc, (World.putObj_heap_other (by omega)).trans (heap_setCell_same _ _ _ _ _ _ hv3.out), ?_⟩, World.putObj_heap_same (by simpa using hL3), (World.putObj_heap_other (by omega)).trans ((Below.heap_setCell _ _ _ _ (by show L ≠ ob; omega)).trans hd3.out), g5.out.trans (hc.belowJ (fun i hi => by have := hobH.out; rcases hi with h | h | h <;> omega) g5.out.size)⟩, ?_⟩
    · rw [take_snocF hkj]
      exact own_keep ho3.out fun g hg => by
        have := (own_blk ho3.out hg).1
        exact (World.putObj_heap_other (by omega)).trans (Below.heap_setCell _ _ _ _ (by show g ≠ ob; omega))
    · refine ⟨hc.os, hc.tape, hc.output, hc.size, fun i hi hn => ?_⟩
      by_cases h : i = L + 1
      · subst h
        exact (World.putObj_heap_same (by simpa using hL3)).trans hl.out.symm
      · exact hc.block i hi (fun h1 => h1.elim (fun h1 => hn (.inl h1)) fun h1 => h1.elim h fun h1 => hn (.inr h1))
  · rintro e W2 ⟨⟨u, rfl⟩, N, hN, ⟨⟨uu, g1, g2⟩, g3, g4, g5⟩, _⟩
    have e6 := congrArg Loop.state hrec
    have e7 := congrArg Loop.pending hrec
    dsimp only at e6 e7
    refine ⟨⟨u, rfl⟩, rec, g3, by rw [← e6]; decide, .inl ⟨e7.symm, ?_⟩⟩
    clear e6 e7 hrec
    intro W3 oo hW3
    have hg3 := grownBy_putObj' W2 (L + 1) oo
    rw [← hW3] at hg3
    have hNL := hs1.out
    have hLo' := hLo.out
    have hob' := hobH.out
    have hv3 := (hg3.block ob (Array.getElem?_eq_some_iff.1 g1).1 (by simp; omega)).trans g1
    have hk3 := hide ((hg3.block L (Array.getElem?_eq_some_iff.1 g4).1 (by simp)).trans g4)
    have hB3 := hide (g5.grown hg3 g5.size (fun k e => by cases e; omega))
    have ho3 := hide (show OwnF W3 N uu (ks.take C.length) from own_keep g2 fun g hg => hg3.block g (own_blk g2 hg).2.1 (by have := (own_blk g2 hg).1; simp; omega))
    have cv3 := cellAt hv3 0
    clear hW3 hg3 g1 g2 g3 g4 g5 hNL hLo' hob'
    gi_wp2
    refine ⟨by simp, .inl ⟨_, _, rfl, run_takeDeferred hk3.out, ?_⟩⟩
    exact ⟨_, results_tmp rfl _ _ _, _, rfl, by
      have h := ho3.out
      rw [hmap.out, List.take_length] at h
      have h1 := hs1.out
      have h2 := hLo.out
      have h3 := hobH.out
      exact own_keep (own_mono h (by omega)) fun g hg => World.putObj_heap_other (by have := (own_blk h hg).1; omega), hB3.out.grown (grownBy_putObj' _ _ _) hB3.out.size (fun k e => by cases e; have := hLo.out; have := hobH.out; omega)⟩
end Go.Proofs.YtnlphbfjeekooaaGreatDoor

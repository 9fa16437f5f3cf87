/-
  Package factset: IDs, Facts: what they return; only new memory is written.
-/
import Derived.Test.YtllbphanfahkkaaGreatDoorFs4
namespace Go.Proofs.YtllbphanfahkkaaGreatDoor
open Go.RowKit Go.Shelf Go.Sort RG
theorem wpListIn_app_run {P : Program} {F : Fence} {nF : Nat} {ops : Array Oper} {rest : List Oper} {o : Oper} {a : Act} {w : World} {Q : Exit → Act → World → Prop} (hgd : o.guard = none) (s x : Operand) (t : TypeId)
    (ho : o.op = .call { callee := .builtin .append, args := #[s, x], argTypes := #[t, t] }) {v y v' : Value} {w' : World} (hs : a.eval s = v) (hx : a.eval x = y) (hr : (Builtin.append_ #[t, t] o.type #[v, y]).run P w = .ok v' w')
    (k : wpListIn F nF P ops Q rest (a.put o.dst v') w') : wpListIn F nF P ops Q (o :: rest) a w := by
  refine wpListIn_plain hgd fun K hK => ?_
  unfold Oper.wpIn
  refine ⟨by simp [Oper.about, ho, resolve, Target.leads, Sem.run_pure], ?_⟩
  rw [Oper.semAt_plain F _ _ (by rw [ho]; intro c hc'; cases hc')]
  simp [execOp, ho, resolve, invoke, builtin, hs, hx, hr, Result.andThen]
  exact hK _ _ k
theorem callsIn_walked {n : Nat} {P : Program} {f : Nat} {args : Array Value} {w : World} {R : Ending → World → Prop} (h : Calls P f args w R) : CallsIn Fence.wide n P f args w R := callsIn_wide.2 h
/-- what the rounds of a list under way keep: the variable's block, the record's block; the row's own memory lies behind N -/
structure LstJ (w : World) (T : TypeId) (ob L : Nat) (rec : Loop) (own : World → Nat → Nat → Value → Prop) (N j : Nat) (W : World) : Prop where
  var : ∃ u, W.heap[ob]? = some (.cells #[u] T (0, 0)) ∧ own W N j u
  lp : W.heap[L + 1]? = some (.loop rec)
  df : W.heap[L]? = some (.deferred (some []))
  bel : Below w.heap.size w W
attribute [local go_sem] Oper.semAt_some
set_option maxRecDepth 100000 in
set_option maxHeartbeats 4000000 in
theorem sids_any (sb mb : Nat) (C : RW.Ents) (hC : C.length ≤ 1000000) (w : World) (hS : SetAt w sb mb C) :
    Calls Tryz.prog 133 #[.pointer (some ⟨sb, 0, none⟩)] w fun e w' => ∃ u, e = .returned u ∧ StrsOwn w' w.heap.size u (C.map (·.1)) ∧ Below w.heap.size w w' := by
  obtain ⟨ks, hks⟩ : ∃ ks, ks = C.map (·.1) := ⟨_, rfl⟩
  have hksH := hide hks
  rw [← hks]
  clear hks
  refine (callsIn_wide (n := 5)).1 ?_
  refine callsIn_of_wp_marks Tryz.func133 rfl trivial ?_ rfl
  simp only [Tryz.ntmps133, List.size_toArray, List.length_cons, List.length_nil, Nat.reduceAdd, Nat.reduceSub, Array.replicate_succ, Array.replicate_zero, List.push_toArray, List.append_toArray, List.nil_append, List.cons_append]
  obtain ⟨ob, hob⟩ : ∃ b, b = w.heap.size := ⟨_, rfl⟩
  have hobH := hide hob
  have hal := fun W => hide (sall_any (some ⟨sb, 0, none⟩) W)
  gi_wp2
  refine ⟨trivial, (callsIn_wide.2 (hal _).out).mono ?_⟩
  rintro e w1 ⟨rfl, rfl⟩
  clear hal
  gi_wp2
  obtain ⟨L, hL⟩ : ∃ L, L = w.heap.size + 1 + 1 := ⟨_, rfl⟩
  obtain ⟨w0, hw0⟩ : ∃ w0, w0 = (w.alloc (.cells #[.slice none 0 0] 22)).alloc (.cells #[.pointer (some ⟨sb, 0, none⟩)] 157) := ⟨_, rfl⟩
  rw [← hw0]
  have hB0 := hide (show Below w.heap.size w w0 by rw [hw0]; exact alloc_bel (alloc_bel (Below.refl _ _) (Nat.le_refl _) _) (by simp) _)
  have hs0 := hide (show w0.heap.size = L by rw [hw0, hL]; simp)
  have hv0 := hide (show w0.heap[ob]? = some (.cells #[.slice none 0 0] 22 (0, 0)) by rw [hw0, hob]; exact (Below.heap_alloc _ _ _ (by simp)).trans (alloc_at1 _ _))
  have hc0 := hide (show w0.heap[ob + 1]? = some (.cells #[.pointer (some ⟨sb, 0, none⟩)] 157 (0, 0)) by rw [hw0, hob]; exact newAt (by simp))
  have hLo := hide (show L = ob + 2 by rw [hL, hob])
  rw [← hob]
  have hS0 := hide (hS.next hB0.out)
  have hCn := hide (And.intro hS.asc (show (C.map (·.1)).length ≤ 1000000 by rw [List.length_map]; exact hC))
  rw [← hksH.out] at hCn
  clear hw0 hL hS hob
  refine wpIn_rf rfl (by omega) (gf := 174) (lb := #[.pointer (some ⟨ob + 1, 0, none⟩)]) rfl trivial (enters_of Tryz.func174 (by kernel_rfl) rfl) ?_
  intro fn hfn W1 hW1 hL1 hK1
  rw [hs0.out] at hW1 hL1 hK1 ⊢
  have hs1 := hide (show W1.heap.size = L + 2 by rw [hW1]; simp [hs0.out])
  have hB1 := hide (show Below w0.heap.size w0 W1 by rw [hW1]; exact alloc_bel (alloc_bel (Below.refl _ _) (Nat.le_refl _) _) (Nat.le_refl _) _)
  clear hW1
  generalize hrec : ({ state := .ready, pending := none, fn, tmps := _, params := _, assign := _, body := _, defers := L } : Loop) = rec at hL1 ⊢
  have hv1 := hide ((hB1.out.block ob (by rw [hs0.out, hLo.out]; omega)).trans hv0.out)
  have hc1 := hide ((hB1.out.block (ob + 1) (by rw [hs0.out, hLo.out]; omega)).trans hc0.out)
  have hBw := hide (hB0.out.trans (hB1.out.mono hB0.out.size))
  have hS1 := hide (hS0.out.next hB1.out)
  have hLH := hide hL1
  have hKH := hide hK1
  clear hL1 hK1 hB0 hv0 hc0 hB1 hS0
  have hmap := hide (show C.length = ks.length by rw [hksH.out, List.length_map])
  refine (all1_in 4 (by omega) sb mb C hC (ob + 1) ob (L + 1) (LstJ w 22 ob L rec fun W N j u => StrsOwn W N u (ks.take j)) W1 hc1.out hS1.out (by rw [hs1.out, hLo.out]; omega) (by omega) ?_ ?_ ?_ ?_ ?_).mono ?_
  · have := hS1.out.row
    intro e
    rw [← e, hv1.out] at this
    cases this
  · exact hS1.out.nem hv1.out
  · intro W' hB
    refine ⟨⟨.slice none 0 0, (hB.block _ (Array.getElem?_eq_some_iff.1 hv1.out).1).trans hv1.out, ?_⟩, (hB.block _ (Array.getElem?_eq_some_iff.1 hLH.out).1).trans hLH.out, (hB.block _ (Array.getElem?_eq_some_iff.1 hKH.out).1).trans hKH.out, hBw.out.trans (hB.mono hBw.out.size)⟩
    rw [List.take_zero]
    exact strs_nil _ _
  · rintro N j Wa Wb ⟨⟨u, g1, g2⟩, g3, g4, g5⟩ hB
    exact ⟨⟨u, (hB.block _ (Array.getElem?_eq_some_iff.1 g1).1).trans g1, own_keep g2 fun g hg => hB.block g (own_blk g2 hg).2.1⟩, (hB.block _ (Array.getElem?_eq_some_iff.1 g3).1).trans g3, (hB.block _ (Array.getElem?_eq_some_iff.1 g4).1).trans g4, g5.trans (hB.mono g5.size)⟩
  · rintro N j k vv W hN hjk hNs ⟨⟨u, g1, g2⟩, g3, g4, g5⟩
    have hkj : ks[j]? = some k := by rw [hksH.out, List.getElem?_map, hjk]; rfl
    have hjl : j < ks.length := (List.getElem?_eq_some_iff.1 hkj).1
    have e1 := congrArg Loop.assign hrec
    have e2 := congrArg Loop.body hrec
    have e3 := congrArg Loop.params hrec
    have e4 := congrArg Loop.tmps hrec
    have e5 := congrArg Loop.fn hrec
    have e6 := congrArg Loop.state hrec
    have e7 := congrArg Loop.pending hrec
    dsimp only at e1 e2 e3 e4 e5 e6 e7
    have eH := hide (And.intro e1 (And.intro e2 (And.intro e3 (And.intro e4 (And.intro e6 e7)))))
    have hl := hide g3
    refine yieldAt_body g3 e6.symm (by rw [← e3]; rfl) (by rw [← e5]; exact hfn) ?_
    rw [← e1, ← e2, ← e3, ← e4]
    clear e1 e2 e3 e4 e5 e6 e7 hrec g3
    have g1 := hide g1
    have g2 := hide g2
    have g4 := hide g4
    have g5 := hide g5
    have hNL := hide (show ob < L ∧ L + 1 < N by have := hs1.out; have := hLo.out; omega)
    gi_wp2
    refine ⟨hl.out, ?_⟩
    intro W2 busy hbusy hl2 hg2
    have hrdy : Hid (({ busy with state := .ready, pending := none } : Loop) = rec) := by
      obtain ⟨e1, e2, e3, e4, e6, e7⟩ := eH.out
      show _ = _
      rw [hbusy]; cases rec; simp_all
    clear hbusy eH
    have hoth := hide (show ∀ i, i < W.heap.size → i ≠ L + 1 → W2.heap[i]? = W.heap[i]? from fun i hi hne => hg2.block i hi (by simp; omega))
    have hsz := hide hg2.size
    have ho2 := hide (show StrsOwn W2 N u (ks.take j) from own_keep g2.out fun g hg => hoth.out g (own_blk g2.out hg).2.1 (by have := (own_blk g2.out hg).1; have := hNL.out; omega))
    have hv2 := hide ((hoth.out ob (Array.getElem?_eq_some_iff.1 g1.out).1 (by have := hNL.out; omega)).trans g1.out)
    have hd2 := hide ((hoth.out L (Array.getElem?_eq_some_iff.1 g4.out).1 (by omega)).trans g4.out)
    have hl2H := hide hl2
    have hOs := hide (And.intro hg2.os (And.intro hg2.tape hg2.output))
    have hN2 : N ≤ W2.heap.size := Nat.le_trans hNs hg2.size
    obtain ⟨v', W3, hrun, ho3, hch, hvb⟩ := run_app_str k ho2.out hN2 (by rw [List.length_take]; have := hCn.out.2; omega)
    obtain ⟨va, vc, e'⟩ := own_shape ho3
    obtain ⟨nl, hnl⟩ : ∃ n, n = (ks.take j ++ [k]).length := ⟨_, rfl⟩
    rw [← hnl] at e'
    subst e'
    clear hnl
    have hne : u.ownBlock ≠ some ob := fun e => by have := (own_blk ho2.out e).1; have := hNL.out; omega
    have hv3 := hide ((hch.block ob (Array.getElem?_eq_some_iff.1 hv2.out).1 hne).trans hv2.out)
    have hl3 := hide ((hch.block (L + 1) (Array.getElem?_eq_some_iff.1 hl2H.out).1 (fun e => by have := (own_blk ho2.out e).1; have := hNL.out; omega)).trans hl2H.out)
    have hd3 := hide ((hch.block L (Array.getElem?_eq_some_iff.1 hd2.out).1 (fun e => by have := (own_blk ho2.out e).1; have := hNL.out; omega)).trans hd2.out)
    have ho3 := hide ho3
    have hch := hide hch
    have cv2 := cellAt hv2.out 0
    have cv3 := cellAt hv3.out 0
    have fv3 : W3.frozen? ⟨ob, 0, none⟩ = false := unfrozen hv3.out
    clear hl2 hg2 hvb
    gi_wp2_with (gi_at_builtin; refine wpListIn_app_run rfl _ _ 22 rfl rfl rfl hrun ?_)
    have hc : ChgS (fun i => i = ob ∨ i = L + 1 ∨ N ≤ i) W ((W3.setCell ⟨ob, 0, none⟩ (.slice va nl vc)).putObj (L + 1) (.loop rec)) := by
      have c1 : ChgS (fun i => i = ob ∨ i = L + 1 ∨ N ≤ i) W W2 := ⟨hOs.out.1, hOs.out.2.1, hOs.out.2.2, hsz.out, fun i hi hn => hoth.out i hi fun h => hn (.inr (.inl h))⟩
      have c2 := c1.trans (hch.out.impF fun i hi => .inr (.inr (own_blk ho2.out hi).1))
      exact (c2.set (.inl rfl) _).grown (grownBy_putObj' _ (L + 1) _) (fun i hi => by cases hi; exact .inr (.inl rfl))
    have hL3 := (Array.getElem?_eq_some_iff.1 hl3.out).1
    have hN1 := hNL.out
    refine ⟨(Below.heap_setCell _ _ _ _ (by show L + 1 ≠ ob; omega)).trans hl3.out, ?_⟩
    rw [hrdy.out]
    refine ⟨rfl, ⟨⟨.slice va nl vc, (World.putObj_heap_other (by omega)).trans (heap_setCell_same _ _ _ _ _ _ hv3.out), ?_⟩, World.putObj_heap_same (by simpa using hL3), (World.putObj_heap_other (by omega)).trans ((Below.heap_setCell _ _ _ _ (by show L ≠ ob; omega)).trans hd3.out), g5.out.trans (hc.belowJ (fun i hi => by have := hobH.out; rcases hi with h | h | h <;> omega) g5.out.size)⟩, ?_⟩
    · rw [RW.take_snocB hkj]
      exact own_keep ho3.out fun g hg => by
        have := (own_blk ho3.out hg).1
        exact (World.putObj_heap_other (by omega)).trans (Below.heap_setCell _ _ _ _ (by show g ≠ ob; omega))
    · refine ⟨hc.os, hc.tape, hc.output, hc.size, fun i hi hn => ?_⟩
      by_cases h : i = L + 1
      · subst h
        exact (World.putObj_heap_same (by simpa using hL3)).trans hl.out.symm
      · exact hc.block i hi (fun h1 => h1.elim (fun h1 => hn (.inl h1)) fun h1 => h1.elim h fun h1 => hn (.inr h1))
  · rintro e W2 ⟨⟨u, rfl⟩, N, hN, ⟨⟨uu, g1, g2⟩, g3, g4, g5⟩, _⟩
    have e6 := congrArg Loop.state hrec
    have e7 := congrArg Loop.pending hrec
    dsimp only at e6 e7
    refine ⟨⟨u, rfl⟩, rec, g3, by rw [← e6]; decide, .inl ⟨e7.symm, ?_⟩⟩
    clear e6 e7 hrec
    intro W3 oo hW3
    have hg3 := grownBy_putObj' W2 (L + 1) oo
    rw [← hW3] at hg3
    have hNL := hs1.out
    have hLo' := hLo.out
    have hob' := hobH.out
    have hv3 := (hg3.block ob (Array.getElem?_eq_some_iff.1 g1).1 (by simp; omega)).trans g1
    have hk3 := hide ((hg3.block L (Array.getElem?_eq_some_iff.1 g4).1 (by simp)).trans g4)
    have hB3 := hide (g5.grown hg3 g5.size (fun k e => by cases e; omega))
    have ho3 := hide (show StrsOwn W3 N uu (ks.take C.length) from own_keep g2 fun g hg => hg3.block g (own_blk g2 hg).2.1 (by have := (own_blk g2 hg).1; simp; omega))
    have cv3 := cellAt hv3 0
    clear hW3 hg3 g1 g2 g3 g4 g5 hNL hLo' hob'
    gi_wp2
    refine ⟨by simp, .inl ⟨_, _, rfl, run_takeDeferred hk3.out, ?_⟩⟩
    exact ⟨_, results_tmp rfl _ _ _, _, rfl, by
      have h := ho3.out
      rw [hmap.out, List.take_length] at h
      have h1 := hs1.out
      have h2 := hLo.out
      have h3 := hobH.out
      exact own_keep (own_mono h (by omega)) fun g hg => World.putObj_heap_other (by have := (own_blk h hg).1; omega), hB3.out.grown (grownBy_putObj' _ _ _) hB3.out.size (fun k e => by cases e; have := hLo.out; have := hobH.out; omega)⟩
end Go.Proofs.YtllbphanfahkkaaGreatDoor

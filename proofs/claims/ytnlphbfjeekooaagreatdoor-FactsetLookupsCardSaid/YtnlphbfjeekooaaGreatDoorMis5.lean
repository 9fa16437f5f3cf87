/-
  Package factset: IDs and Facts of no set; Part: what it returns; only new memory is written.
-/
import Derived.Test.YtnlphbfjeekooaaGreatDoorFs6
import Derived.Test.YtnlphbfjeekooaaGreatDoorMis4
namespace Go.Proofs.YtnlphbfjeekooaaGreatDoor
open Go.RowKit Go.Shelf Go.Sort RG
theorem sall_nil (Bc l n : Nat) (W : World) (hc : W.heap[Bc]? = some (.cells #[.pointer none] 25 (0, 0))) :
    CallsIn Fence.wide n Tryz.prog 66 #[.func (.yield l) #[] #[], .pointer (some ⟨Bc, 0, none⟩)] W fun e W' => (∃ v, e = .returned v) ∧ W' = W := by
  refine callsIn_wide.2 ?_
  have c0 := cellAt hc 0
  go_enter Tryz.func66, Tryz.ntmps66
  go_wp2
  refine bodyPost_ret (results_none rfl _ _ _) rfl ?_
  exact ⟨⟨_, rfl⟩, rfl⟩
section
attribute [local go_sem] Oper.semAt_some
set_option maxRecDepth 100000 in
set_option maxHeartbeats 4000000 in
theorem sids_nil (w : World) :
    Calls Tryz.prog 14 #[.pointer none] w fun e w' => e = .returned (.slice none 0 0) ∧ Below w.heap.size w w' := by
  refine (callsIn_wide (n := 5)).1 ?_
  refine callsIn_of_wp_marks Tryz.func14 rfl trivial ?_ rfl
  simp only [Tryz.ntmps14, List.size_toArray, List.length_cons, List.length_nil, Nat.reduceAdd, Nat.reduceSub, Array.replicate_succ, Array.replicate_zero, List.push_toArray, List.append_toArray, List.nil_append, List.cons_append]
  obtain ⟨ob, hob⟩ : ∃ b, b = w.heap.size := ⟨_, rfl⟩
  have hobH := hide hob
  have hal := fun W => hide (sall_any none W)
  gi_wp2
  refine ⟨trivial, (callsIn_wide.2 (hal _).out).mono ?_⟩
  rintro e w1 ⟨rfl, rfl⟩
  clear hal
  gi_wp2
  obtain ⟨L, hL⟩ : ∃ L, L = w.heap.size + 1 + 1 := ⟨_, rfl⟩
  obtain ⟨w0, hw0⟩ : ∃ w0, w0 = (w.alloc (.cells #[.slice none 0 0] 27)).alloc (.cells #[.pointer none] 25) := ⟨_, rfl⟩
  rw [← hw0]
  have hB0 := hide (show Below w.heap.size w w0 by rw [hw0]; exact alloc_bel (alloc_bel (Below.refl _ _) (Nat.le_refl _) _) (by simp) _)
  have hs0 := hide (show w0.heap.size = L by rw [hw0, hL]; simp)
  have hv0 := hide (show w0.heap[ob]? = some (.cells #[.slice none 0 0] 27 (0, 0)) by rw [hw0, hob]; exact (Below.heap_alloc _ _ _ (by simp)).trans (alloc_at1 _ _))
  have hc0 := hide (show w0.heap[ob + 1]? = some (.cells #[.pointer none] 25 (0, 0)) by rw [hw0, hob]; exact newAt (by simp))
  have hLo := hide (show L = ob + 2 by rw [hL, hob])
  rw [← hob]
  clear hw0 hL hob
  refine wpIn_rf rfl (by omega) (gf := 66) (lb := #[.pointer (some ⟨ob + 1, 0, none⟩)]) rfl trivial (enters_of Tryz.func66 (by kernel_rfl) rfl) ?_
  intro fn hfn W1 hW1 hL1 hK1
  rw [hs0.out] at hW1 hL1 hK1 ⊢
  have hs1 := hide (show W1.heap.size = L + 2 by rw [hW1]; simp [hs0.out])
  have hB1 := hide (show Below w0.heap.size w0 W1 by rw [hW1]; exact alloc_bel (alloc_bel (Below.refl _ _) (Nat.le_refl _) _) (Nat.le_refl _) _)
  clear hW1
  generalize hrec : ({ state := .ready, pending := none, fn, tmps := _, params := _, assign := _, body := _, defers := L } : Loop) = rec at hL1 ⊢
  have hv1 := hide ((hB1.out.block ob (by rw [hs0.out, hLo.out]; omega)).trans hv0.out)
  have hc1 := hide ((hB1.out.block (ob + 1) (by rw [hs0.out, hLo.out]; omega)).trans hc0.out)
  have hBw := hide (hB0.out.trans (hB1.out.mono hB0.out.size))
  have hLH := hide hL1
  have hKH := hide hK1
  clear hL1 hK1 hB0 hv0 hc0 hB1
  refine (sall_nil (ob + 1) (L + 1) _ W1 hc1.out).mono ?_
  rintro e W2 ⟨⟨u, rfl⟩, rfl⟩
  have e6 := congrArg Loop.state hrec
  have e7 := congrArg Loop.pending hrec
  dsimp only at e6 e7
  refine ⟨⟨u, rfl⟩, rec, hLH.out, by rw [← e6]; decide, .inl ⟨e7.symm, ?_⟩⟩
  clear e6 e7 hrec
  intro W3 oo hW3
  have hg3 := grownBy_putObj' W2 (L + 1) oo
  rw [← hW3] at hg3
  have hLo' := hLo.out
  have hs1' := hs1.out
  have hob' := hobH.out
  have hv3 := (hg3.block ob (Array.getElem?_eq_some_iff.1 hv1.out).1 (by simp; omega)).trans hv1.out
  have hk3 := hide ((hg3.block L (Array.getElem?_eq_some_iff.1 hKH.out).1 (by simp)).trans hKH.out)
  have hB3 := hide (hBw.out.grown hg3 hBw.out.size (fun k e => by cases e; omega))
  have cv3 := cellAt hv3 0
  clear hW3 hg3 hLo' hs1' hob'
  gi_wp2
  refine ⟨by simp, .inl ⟨_, _, rfl, run_takeDeferred hk3.out, ?_⟩⟩
  exact ⟨_, results_tmp rfl _ _ _, rfl, hB3.out.grown (grownBy_putObj' _ _ _) hB3.out.size (fun k e => by cases e; have := hLo.out; have := hobH.out; omega)⟩
set_option maxRecDepth 100000 in
set_option maxHeartbeats 4000000 in
theorem sfacts_nil (w : World) :
    Calls Tryz.prog 30 #[.pointer none] w fun e w' => e = .returned (.slice none 0 0) ∧ Below w.heap.size w w' := by
  refine (callsIn_wide (n := 5)).1 ?_
  refine callsIn_of_wp_marks Tryz.func30 rfl trivial ?_ rfl
  simp only [Tryz.ntmps30, List.size_toArray, List.length_cons, List.length_nil, Nat.reduceAdd, Nat.reduceSub, Array.replicate_succ, Array.replicate_zero, List.push_toArray, List.append_toArray, List.nil_append, List.cons_append]
  obtain ⟨ob, hob⟩ : ∃ b, b = w.heap.size := ⟨_, rfl⟩
  have hobH := hide hob
  have hal := fun W => hide (sall_any none W)
  gi_wp2
  refine ⟨trivial, (callsIn_wide.2 (hal _).out).mono ?_⟩
  rintro e w1 ⟨rfl, rfl⟩
  clear hal
  gi_wp2
  obtain ⟨L, hL⟩ : ∃ L, L = w.heap.size + 1 + 1 := ⟨_, rfl⟩
  obtain ⟨w0, hw0⟩ : ∃ w0, w0 = (w.alloc (.cells #[.slice none 0 0] 22)).alloc (.cells #[.pointer none] 25) := ⟨_, rfl⟩
  rw [← hw0]
  have hB0 := hide (show Below w.heap.size w w0 by rw [hw0]; exact alloc_bel (alloc_bel (Below.refl _ _) (Nat.le_refl _) _) (by simp) _)
  have hs0 := hide (show w0.heap.size = L by rw [hw0, hL]; simp)
  have hv0 := hide (show w0.heap[ob]? = some (.cells #[.slice none 0 0] 22 (0, 0)) by rw [hw0, hob]; exact (Below.heap_alloc _ _ _ (by simp)).trans (alloc_at1 _ _))
  have hc0 := hide (show w0.heap[ob + 1]? = some (.cells #[.pointer none] 25 (0, 0)) by rw [hw0, hob]; exact newAt (by simp))
  have hLo := hide (show L = ob + 2 by rw [hL, hob])
  rw [← hob]
  clear hw0 hL hob
  refine wpIn_rf rfl (by omega) (gf := 66) (lb := #[.pointer (some ⟨ob + 1, 0, none⟩)]) rfl trivial (enters_of Tryz.func66 (by kernel_rfl) rfl) ?_
  intro fn hfn W1 hW1 hL1 hK1
  rw [hs0.out] at hW1 hL1 hK1 ⊢
  have hs1 := hide (show W1.heap.size = L + 2 by rw [hW1]; simp [hs0.out])
  have hB1 := hide (show Below w0.heap.size w0 W1 by rw [hW1]; exact alloc_bel (alloc_bel (Below.refl _ _) (Nat.le_refl _) _) (Nat.le_refl _) _)
  clear hW1
  generalize hrec : ({ state := .ready, pending := none, fn, tmps := _, params := _, assign := _, body := _, defers := L } : Loop) = rec at hL1 ⊢
  have hv1 := hide ((hB1.out.block ob (by rw [hs0.out, hLo.out]; omega)).trans hv0.out)
  have hc1 := hide ((hB1.out.block (ob + 1) (by rw [hs0.out, hLo.out]; omega)).trans hc0.out)
  have hBw := hide (hB0.out.trans (hB1.out.mono hB0.out.size))
  have hLH := hide hL1
  have hKH := hide hK1
  clear hL1 hK1 hB0 hv0 hc0 hB1
  refine (sall_nil (ob + 1) (L + 1) _ W1 hc1.out).mono ?_
  rintro e W2 ⟨⟨u, rfl⟩, rfl⟩
  have e6 := congrArg Loop.state hrec
  have e7 := congrArg Loop.pending hrec
  dsimp only at e6 e7
  refine ⟨⟨u, rfl⟩, rec, hLH.out, by rw [← e6]; decide, .inl ⟨e7.symm, ?_⟩⟩
  clear e6 e7 hrec
  intro W3 oo hW3
  have hg3 := grownBy_putObj' W2 (L + 1) oo
  rw [← hW3] at hg3
  have hLo' := hLo.out
  have hs1' := hs1.out
  have hob' := hobH.out
  have hv3 := (hg3.block ob (Array.getElem?_eq_some_iff.1 hv1.out).1 (by simp; omega)).trans hv1.out
  have hk3 := hide ((hg3.block L (Array.getElem?_eq_some_iff.1 hKH.out).1 (by simp)).trans hKH.out)
  have hB3 := hide (hBw.out.grown hg3 hBw.out.size (fun k e => by cases e; omega))
  have cv3 := cellAt hv3 0
  clear hW3 hg3 hLo' hs1' hob'
  gi_wp2
  refine ⟨by simp, .inl ⟨_, _, rfl, run_takeDeferred hk3.out, ?_⟩⟩
  exact ⟨_, results_tmp rfl _ _ _, rfl, hB3.out.grown (grownBy_putObj' _ _ _) hB3.out.size (fun k e => by cases e; have := hLo.out; have := hobH.out; omega)⟩
end
namespace RW
/-- the set of some strings' entries -/
def partE (C : Ents) (l : List ByteArray) : Ents := l.foldl (fun a k => updE k ((KM.get k C).getD (fv zeroFv)) a) []
theorem partE_snoc (C : Ents) (l : List ByteArray) (k : ByteArray) : partE C (l ++ [k]) = updE k ((KM.get k C).getD (fv zeroFv)) (partE C l) := by unfold partE; rw [List.foldl_append]; rfl
theorem take_snocE {α : Type} {l : List α} {j : Nat} {x : α} (h : l[j]? = some x) : l.take (j + 1) = l.take j ++ [x] := by
  obtain ⟨h1, h2⟩ := List.getElem?_eq_some_iff.1 h
  rw [List.take_succ_eq_append_getElem h1, h2]
end RW
attribute [local go_sem ↓] ldRow_fact
set_option maxRecDepth 100000 in
set_option maxHeartbeats 8000000 in
theorem spart_any (sb mb : Nat) (C : RW.Ents) (v : Value) (l : List ByteArray) (hl : l.length ≤ 1000000) (w : World) (hS : SetAt w sb mb C) (hv : StrR w v l) :
    Calls Tryz.prog 27 #[.pointer (some ⟨sb, 0, none⟩), v] w fun e w' => Below w.heap.size w w' ∧
      ((e = .returned (.tuple #[.pointer none, .bool false]) ∧ ∃ k ∈ l, (KM.get k C).isSome = false) ∨
       (∃ pb qb, e = .returned (.tuple #[.pointer (some ⟨pb, 0, none⟩), .bool true]) ∧ (∀ k ∈ l, (KM.get k C).isSome = true) ∧ SetAt w' pb qb (RW.partE C l) ∧ w.heap.size ≤ pb ∧ w.heap.size ≤ qb)) := by
  obtain ⟨va, vc, rfl, _, _⟩ := id hv
  have hvA := hide hv
  have hSH := hide (fun W (hW : Below w.heap.size w W) => hS.next hW)
  have hN := hide (snew_any w)
  obtain ⟨m, hm⟩ : ∃ m, m = l.length := ⟨_, rfl⟩
  have hmH := hide hm
  rw [← hm] at hl ⊢
  obtain ⟨B, hB⟩ : ∃ B, B = w.heap.size := ⟨_, rfl⟩
  have hBH := hide hB
  rw [← hB] at hSH hN ⊢
  clear hv hS hm hB
  go_enter Tryz.func27, Tryz.ntmps27
  go_upto_region 4 with (go_at_call 19; refine hN.out.mono ?_; rintro e w1 ⟨pb, qb, rfl, h1, h2, h3, h4⟩; have h1H := hide h1; have h2H := hide h2; have h34 := hide (And.intro h3 h4); clear h1 h2 h3 h4)
  go_wp2
  go_loopw [16, 8, 9, 10] (fun i _ _ _ wr => ∃ j : Nat, i = .int .i64 j ∧ j ≤ m ∧ Hid (SetAt wr pb qb (RW.partE C (l.take j)) ∧ (∀ k ∈ l.take j, (KM.get k C).isSome = true) ∧ Below B w wr)) (fun i _ _ _ _ => m - (intOf i).toNat)
  case atStart => exact ⟨0, rfl, Nat.zero_le _, h1H.out, by simp, h2H.out⟩
  case round =>
    obtain ⟨j, rfl, hj, hQ⟩ := hrel
    obtain ⟨wo, hwo⟩ : ∃ wo, wo = wr := ⟨_, rfl⟩
    subst hwo
    by_cases hjm : j < m
    · obtain ⟨k, hk⟩ : ∃ k, l[j]? = some k := ⟨_, List.getElem?_eq_getElem (by rw [← hmH.out]; exact hjm)⟩
      obtain ⟨g0, o0, vc', e', hcell⟩ := strR_cell (W' := wo) hvA.out hk
      cases e'
      have hc := hcell wo (show Below w.heap.size w wo by rw [← hBH.out]; exact hQ.out.2.2)
      have hS1 := hide (hSH.out wo hQ.out.2.2)
      have c0 := hS1.out.cell
      have hlk := hS1.out.look k
      obtain ⟨y, hy⟩ := hS1.out.fvs.get k
      obtain ⟨cs, hcs⟩ : ∃ cs, cs = RW.fcells y.1 y.2 := ⟨_, rfl⟩
      obtain ⟨q, hq⟩ : ∃ q, q = (KM.get k C).isSome := ⟨_, rfl⟩
      have hyc : (KM.get k C).getD (RW.fv RW.zeroFv) = .agg cs := by rw [hy, hcs]; rfl
      rw [hyc, ← hq] at hlk
      have hi := fact_infoF y.1 y.2
      have h1 := fcells_oneF y.1 y.2
      have hn : cs.size = 18 := by rw [hcs]; rfl
      rw [← hcs] at hi h1
      have hycH := hide hyc
      have hyH := hide hy
      have hqH := hide hq
      have hkH := hide hk
      clear hcell hyc hy hcs hq hk
      cases q
      · go_wp2_with (refine wpList_store_newF rfl 38 (.tmp 9) (.tmp 27) rfl cs rfl rfl 38 _ hi (by rw [hn]; rfl) h1 ?_)
        go_ret2
        exact ⟨alloc_bel hQ.out.2.2 (Nat.le_of_eq hBH.out) _, .inl ⟨rfl, k, List.mem_of_getElem? hkH.out, hqH.out.symm⟩⟩
      go_upto_region 8 with (refine wpList_store_newF rfl 38 (.tmp 9) (.tmp 27) rfl cs rfl rfl 38 _ hi (by rw [hn]; rfl) h1 ?_)
      have hA := hide (alloc_bel (Below.refl wo.heap.size wo) (Nat.le_refl _) (.cells cs 38))
      refine gen_w (fun W => W.heap[wo.heap.size]? = some (.cells cs 38 (0, 0)) ∧ Below wo.heap.size wo W) ⟨alloc_at1 _ _, hA.out⟩ ?_
      rintro w2 ⟨hz2, hB2⟩
      obtain ⟨b9, hb9⟩ : ∃ b, b = wo.heap.size := ⟨_, rfl⟩
      rw [← hb9] at hz2 ⊢
      have hz2 := hide hz2
      have hP2 := hide (hQ.out.1.next hB2)
      have hB2 := hide (hQ.out.2.2.trans (hB2.mono (by rw [hBH.out]; exact hQ.out.2.2.size)))
      clear hA hb9 hc c0 hlk hS1 hi h1
      go_upto_region 10 with fail
      refine wp_region_k (fun _ W => W.heap[pb]? = some (.cells #[.map (some qb)] 78 (0, 0)) ∧ W.heap[b9]? = some (.cells cs 38 (0, 0))) (fun W => SetAt W pb qb (RW.partE C (l.take j)) ∧ Below B w W) [6] (.op 0 (.op 1 (.op 2 (.op 3 (.op 4 (.op 5 (.op 6 .nil))))))) (by kernel_rfl) (by kernel_rfl) (by rfl) (by kernel_rfl) ⟨hP2.out.row, hz2.out⟩ ⟨hP2.out.next (Below.refl _ _).drew, hB2.out.drew⟩ ?_
      refine k_val (.pointer (some ⟨pb, 0, none⟩)) (by apply opN; repeat' (first | apply OpAt.z | apply OpAt.s)) (by rfl) (by rfl) (fun _ W hS => op_mv rfl rfl) ?_
      simp only [Act.put, List.setIfInBounds_toArray, List.set_cons_zero, List.set_cons_succ]
      refine k_val (.pointer (some ⟨pb, 0, none⟩)) (by apply opN; repeat' (first | apply OpAt.z | apply OpAt.s)) (by rfl) (by rfl) (fun _ W hS => op_nc rfl rfl) ?_
      simp only [Act.put, List.setIfInBounds_toArray, List.set_cons_zero, List.set_cons_succ]
      refine k_val (.pointer (some ⟨pb, 0, none⟩)) (by apply opN; repeat' (first | apply OpAt.z | apply OpAt.s)) (by rfl) (by rfl) (fun _ W hS => op_fa rfl rfl (fa_set W)) ?_
      simp only [Act.put, List.setIfInBounds_toArray, List.set_cons_zero, List.set_cons_succ]
      refine k_val (.map (some qb)) (by apply opN; repeat' (first | apply OpAt.z | apply OpAt.s)) (by rfl) (by rfl) (fun _ W hS => op_ld rfl rfl (map_ldF (cellAt hS.1 0))) ?_
      simp only [Act.put, List.setIfInBounds_toArray, List.set_cons_zero, List.set_cons_succ]
      refine k_val (.string k) (by apply opN; repeat' (first | apply OpAt.z | apply OpAt.s)) (by rfl) (by rfl) (fun _ W hS => op_mv rfl rfl) ?_
      simp only [Act.put, List.setIfInBounds_toArray, List.set_cons_zero, List.set_cons_succ]
      refine k_val (.agg cs) (by apply opN; repeat' (first | apply OpAt.z | apply OpAt.s)) (by rfl) (by rfl) (fun _ W hS => op_ld rfl rfl (fact_ldF hS.2 hn)) ?_
      simp only [Act.put, List.setIfInBounds_toArray, List.set_cons_zero, List.set_cons_succ]
      refine k_step (fun K' u => K' = fun W => SetAt W pb qb (RW.partE C (l.take (j + 1))) ∧ Below B w W) (by apply opN; repeat' (first | apply OpAt.z | apply OpAt.s)) (by rfl) (by rfl) (by rfl) (fun W hC hK => ?_) ?_
      · obtain ⟨w', hr, g1, g2, g3⟩ := hK.1.upd k y
        rw [show RW.fv y = .agg cs by rw [← hycH.out, hyH.out]] at hr
        have hnb := hK.1.nem hC.2
        have g1' : SetAt w' pb qb (RW.partE C (l.take (j + 1))) := by rw [RW.take_snocE hkH.out, RW.partE_snoc, hyH.out]; exact g1
        exact xup_skip (op_updF rfl rfl rfl rfl hr) ⟨⟨g1.row, (g2.block _ (Array.getElem?_eq_some_iff.1 hC.2).1 hnb).trans hC.2⟩, _, ⟨g1', hK.2.trans (g2.belowJ (fun i hi => by rw [hi]; exact h34.out.2) (by rw [hBH.out]; exact hK.2.size))⟩, rfl⟩
      rintro _ _ rfl
      simp only [Act.put]
      refine k_nil ?_
      intro W' _ hK'
      have hK' := hide hK'
      clear hz2 hP2 hB2
      go_wp2
      go_roundw
      case rel =>
        refine ⟨j + 1, by go_num, by omega, hK'.out.1, fun x hx => ?_, hK'.out.2⟩
        rw [RW.take_snocE hkH.out] at hx
        rcases List.mem_append.1 hx with hx | hx
        · exact hQ.out.2.1 x hx
        · rw [List.mem_singleton] at hx
          rw [hx]
          exact hqH.out.symm
      case measure => simp [intOf]; omega
    · obtain rfl : j = m := by omega
      have ht : l.take j = l := List.take_of_length_le (by rw [← hmH.out]; exact Nat.le_refl _)
      have hQ2 := hide (show SetAt wo pb qb (RW.partE C l) ∧ (∀ k ∈ l, (KM.get k C).isSome = true) ∧ Below B w wo by have := hQ.out; rwa [ht] at this)
      clear hQ ht
      go_wp2
      go_ret2
      exact ⟨hQ2.out.2.2, .inr ⟨pb, qb, rfl, hQ2.out.2.1, hQ2.out.1, h34.out.1, h34.out.2⟩⟩
end Go.Proofs.YtnlphbfjeekooaaGreatDoor

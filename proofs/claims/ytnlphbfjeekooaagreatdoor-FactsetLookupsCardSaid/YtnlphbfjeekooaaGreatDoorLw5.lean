/-
  Package royaltylaw06: FactsetLookups: it returns true; only new memory is written.
-/
import Derived.Test.YtnlphbfjeekooaaGreatDoorMP
namespace Go.Proofs.YtnlphbfjeekooaaGreatDoor
open Go.RowKit RG
theorem gen_wlF {P : Program} {ops : Array Oper} {rest : List Oper} {Q : Exit → Act → World → Prop} {a : Act} {W : World} (R : World → Prop) (hR : R W) (h : ∀ W', R W' → wpList P ops Q rest a W') : wpList P ops Q rest a W := h W hR
attribute [local go_sem ↓] ldRow_fact
set_option maxRecDepth 100000 in
set_option maxHeartbeats 8000000 in
theorem look_law (v : Value) (l : List RW.Fc) (hl : l.length ≤ 9223372036854775807) (hs : ∀ x ∈ l, x.2.size ≤ 9223372036854775807) (id : ByteArray)
    (ks : Array Value) (hks : RW.WsOk ks RW.k0F) (w : World) (hv : FactsV w v l) (hK : KLaid w ks) :
    Calls Tryz.prog 9 #[v, .string id] w fun e w' => e = .returned (.bool true) ∧ Below w.heap.size w w' := by
  obtain ⟨B, hB⟩ : ∃ B, B = w.heap.size := ⟨_, rfl⟩
  have hBH := hide hB
  have hBle := hide (show B ≤ w.heap.size by rw [hB]; exact Nat.le_refl _)
  have hKW := hide (fun W (hW : Below B w W) => RW.klaid hK (hB ▸ hW : Below w.heap.size w W))
  have hksH := hide hks
  have hSane := hide (sane_any ks hks w hK)
  rw [← hB] at hSane
  have hCut := hide (fun W (h : Below B w W) => cut_any v l hl hs W (hv.next (hB ▸ h)))
  obtain ⟨cl, hcl⟩ : ∃ c, c = RW.cutF l := ⟨_, rfl⟩
  have hcll : cl.length ≤ 25 := by rw [hcl]; exact RW.cutF_len l
  have hOf := hide (fun W u (h : FactsV W u cl) (hb : Below B w W) => of_any RW.k0F ks hksH.out u cl (by omega) W h (hKW.out W hb))
  obtain ⟨C, hC⟩ : ∃ C, C = RW.ofE RW.k0F [] cl := ⟨_, rfl⟩
  have hOC := hide (show RW.OfC RW.k0F cl C from hC ▸ RW.OfC.of RW.k0F _ cl rfl (by omega))
  rw [← hcl] at hCut
  rw [← hC] at hOf
  have hCl : C.length ≤ 25 := Nat.le_trans hOC.out.le hcll
  obtain ⟨kc, hkc, hkv⟩ := hOC.out.list
  have hkcH := hide hkc
  have hkvH := hide hkv
  obtain ⟨va, vc, rfl, _, _⟩ := Iff.mp Iff.rfl hv
  obtain ⟨vn, hvn⟩ : ∃ n, n = l.length := ⟨_, rfl⟩
  rw [← hB]
  rw [← hvn] at hCut ⊢
  clear hK hks hB hv hs hl hcl hC hvn hkc hkv
  go_enter Tryz.func9, Tryz.ntmps9
  go_upto_region 2 with (go_at_call 11; refine hSane.out.mono ?_; rintro e wS ⟨rfl, h⟩; have hBS := hide h; clear h)
  go_upto_region 3 with (first
    | (go_at_call 12; refine (hCut.out _ hBS).mono ?_; rintro e wC1 ⟨uC1, rfl, g1, g2⟩; have hC1 := hide (And.intro g1 (bel_cat hBS hBle.out g2)); clear g1 g2)
    | (go_at_call 13; refine (hOf.out _ _ hC1.out.1.facts hC1.out.2).mono ?_; rintro e wO1 ⟨sb1, mb1, rfl, g1, g2, g3, g4⟩; have hO1 := hide (And.intro g1 (And.intro g2 (And.intro g3 (bel_cat hC1.out.2 hBle.out g4)))); clear g1 g2 g3 g4))
  have hmbB := hide (show B ≤ mb1 by rw [hBH.out]; exact Nat.le_trans (hBH.out ▸ hC1.out.2 : Below w.heap.size w wC1).size hO1.out.2.2.1)
  have hI := hide (sids_any sb1 mb1 C (by omega) wO1 hO1.out.1)
  go_upto_region 4 with (go_at_call 14; refine hI.out.mono ?_; rintro e w3 ⟨uI, rfl, g1, g2⟩; have h3 := hide (And.intro g1 (And.intro (hO1.out.1.next g2) (And.intro (bel_cat hO1.out.2.2.2 hBle.out g2) g2))); clear g1 g2)
  have hF := hide (sfacts_any sb1 mb1 C kc (by rw [hkcH.out, List.map_map]; rfl) (by omega) w3 h3.out.2.1)
  go_upto_region 5 with (go_at_call 30; refine hF.out.mono ?_; rintro e w4 ⟨uF, rfl, g1, g2⟩; have h4 := hide (And.intro (own_base g1 (Nat.le_trans h3.out.2.2.2.size (Nat.le_refl _))) (And.intro (h3.out.2.1.next g2) (And.intro (bel_cat h3.out.2.2.1 hBle.out g2) (own_keep h3.out.1 fun g hg => g2.block _ (own_blk h3.out.1 hg).2.1)))); clear g1 g2)
  have hLn := hide (slen_any sb1 mb1 C w4 h4.out.2.1)
  obtain ⟨ids, hids⟩ : ∃ i, i = kc.map (RW.idB RW.k0F) := ⟨_, rfl⟩
  have hCi : C.map (·.1) = ids := by rw [hids, hkcH.out, List.map_map]; rfl
  have hCiH := hide hCi
  have hidsH := hide hids
  rw [hCi] at h4
  obtain ⟨n, hn⟩ : ∃ n, n = kc.length := ⟨_, rfl⟩
  have hn1 : C.length = n := by rw [hn, hkcH.out, List.length_map]
  have hn2 : ids.length = n := by rw [hn, hids, List.length_map]
  have hn2H := hide hn2
  have hn25 : n ≤ 25 := by rw [← hn1]; exact hCl
  have hnH := hide hn
  obtain ⟨aI, cI, eI⟩ := own_shape h4.out.2.2.2
  obtain ⟨aF, cF, eF⟩ := own_shape h4.out.1
  subst eI eF
  rw [← hn] at h4 ⊢
  rw [hn2] at h4 ⊢
  rw [hn1] at hLn
  obtain ⟨N, hN⟩ : ∃ N, N = w4.heap.size := ⟨_, rfl⟩
  have hNH := hide hN
  obtain ⟨B0, hB0⟩ : ∃ b, b = wO1.heap.size := ⟨_, rfl⟩
  rw [← hB0] at h4
  have hB0H := hide hB0
  have hB0s := hide (show sb1 < B0 ∧ mb1 < B0 ∧ B ≤ B0 by rw [hB0]; exact ⟨hO1.out.1.lt.1, hO1.out.1.lt.2, by rw [hBH.out]; exact (hBH.out ▸ hO1.out.2.2.2 : Below w.heap.size w wO1).size⟩)
  have hIR := hide (strs_own (show StrsOwn w4 B0 (.slice aI ids.length cI) ids by unfold StrsOwn; rw [hn2]; exact h4.out.2.2.2))
  have hFR := hide (OwnF.facts (show OwnF w4 B0 (.slice aF kc.length cF) kc by have h := h4.out.1; rw [hnH.out] at h; exact h))
  rw [hn2] at hIR
  rw [← hn] at hFR
  clear hids hCi hn hn1 hn2 hN hB0 hI hF h3
  go_wp2_with (go_at_call 23; refine hLn.out.mono ?_; rintro e wL ⟨rfl, h⟩; obtain rfl := h.symm)

  go_loopw [9, 10, 11, 12, 13, 14] (fun kn i _ _ _ _ wr => ∃ (j : Nat) (q : Bool), kn = .bool q ∧ i = .int .i64 j ∧ j ≤ n ∧ Hid ((q = true ↔ id ∈ ids.take j) ∧ Below N w4 wr)) (fun _ i _ _ _ _ _ => n - (intOf i).toNat)
  case atStart => exact ⟨0, false, rfl, rfl, Nat.zero_le _, by simp, by rw [hNH.out]; exact Below.refl _ _⟩
  case round =>
    obtain ⟨j, q, rfl, rfl, hj, hQ⟩ := hrel
    obtain ⟨wo, hwo⟩ : ∃ wo, wo = wr := ⟨_, rfl⟩
    subst hwo
    have hX0 := hide (show Below w4.heap.size w4 wo from hNH.out ▸ hQ.out.2)
    by_cases hjn : j < n
    · obtain ⟨y, hy⟩ : ∃ y, kc[j]? = some y := ⟨_, List.getElem?_eq_getElem (by rw [← hnH.out]; exact hjn)⟩
      have hyv := (hkvH.out y (List.mem_of_getElem? hy)).2
      obtain ⟨ID, hID⟩ : ∃ b, b = RW.idB RW.k0F y := ⟨_, rfl⟩
      have hidj : ids[j]? = some ID := by rw [hidsH.out, List.getElem?_map, hy, hID]; rfl
      have hIDz := hide (show ID.size = 32 by rw [hID]; exact RW.idB_32 _ _)
      have htk := hide (show ids.take (j + 1) = ids.take j ++ [ID] from RW.take_snocE hidj)
      obtain ⟨g0, o0, c0, e', hcell⟩ := strR_cell (W' := wo) (show StrR w4 (.slice aI ids.length cI) ids by rw [hn2H.out]; exact hIR.out) hidj
      rw [hn2H.out] at e'
      obtain ⟨g1, o1, c1, e2, hcell2⟩ := factR_cell (show FactsV w4 (.slice aF kc.length cF) kc by rw [← hnH.out]; exact hFR.out) hy
      rw [← hnH.out] at e2
      have hcellH := hide hcell
      have hcell2H := hide hcell2
      have hprev := hide (show 0 < j → ∃ r, ids[j - 1]? = some r ∧ RW.blt r ID = true ∧ ∀ W', Below w4.heap.size w4 W' → W'.cell? ⟨g0, o0 + (j - 1), none⟩ = some (.string r) from fun h0 => by
        obtain ⟨r, hr⟩ : ∃ r, ids[j - 1]? = some r := ⟨_, List.getElem?_eq_getElem (by rw [hn2H.out]; omega)⟩
        obtain ⟨g2, o2, c2, e3, hc3⟩ := strR_cell (W' := wo) (show StrR w4 (.slice aI ids.length cI) ids by rw [hn2H.out]; exact hIR.out) hr
        rw [hn2H.out] at e3
        rw [e'] at e3
        cases e3
        refine ⟨r, hr, ?_, hc3⟩
        have hp := hOC.out.asc
        unfold RW.AscE RW.AscB at hp
        rw [hCiH.out] at hp
        obtain ⟨h1, h2⟩ := List.getElem?_eq_some_iff.1 hr
        obtain ⟨h3, h4'⟩ := List.getElem?_eq_some_iff.1 hidj
        have := List.pairwise_iff_getElem.1 hp (j - 1) j h1 h3 (by omega)
        rw [h2, h4'] at this
        exact this)
      cases e'
      cases e2
      have hgC := hide (fun W (h : SetAt W sb1 mb1 C) => sget_any sb1 mb1 C ID W h)
      have hgk : KM.get ID C = some (RW.fv y) := by
        refine KM.get_of_mem (RW.AscB.nodup hOC.out.asc) ?_
        rw [hkcH.out, hID]
        exact List.mem_map.2 ⟨y, List.mem_of_getElem? hy, rfl⟩
      rw [hgk] at hgC
      have hFid := hide (fun W (h : Below B w W) => id_fact y.1 y.2 RW.k0F ks hksH.out W (hKW.out W h))
      rw [RW.idR_yes _ _ _ hyv, show (⟨(RW.sha RW.k0F (RW.encL y.1 y.2.data.toList)).toArray⟩ : ByteArray) = ID from hID.symm] at hFid
      have hld := hcell2 wo hX0.out
      obtain ⟨cs, hcs⟩ : ∃ cs, cs = RW.fcells y.1 y.2 := ⟨_, rfl⟩
      have hcsH := hide hcs
      have hfi := fact_infoF y.1 y.2
      have hf1 := fcells_oneF y.1 y.2
      have hcz : cs.size = 18 := by rw [hcs]; rfl
      rw [show RW.fv y = .agg cs by rw [hcs]; rfl] at hgC hld
      rw [show (some (Value.agg cs)).getD (RW.fv RW.zeroFv) = .agg cs from rfl, show (some (Value.agg cs)).isSome = true from rfl] at hgC
      rw [← hcs] at hfi hf1 hFid
      have hcF := hide (fun W (h : Below w4.heap.size w4 W) => (show (ldRow 38 (.pointer (some ⟨g1, o1 + j * 18, none⟩))).run Tryz.prog W = .ok (.agg cs) W by rw [hcsH.out]; exact hcell2H.out W h))
      have hBo := hide (bel_cat h4.out.2.2.1 hBle.out hX0.out)
      clear hcell hcell2 hcell2H hcs hgk hyv hy hidj hID
      go_upto_region 12 with (go_at_call 38; refine (hFid.out _ hBo.out).mono ?_; rintro e wa ⟨rfl, g⟩; have ha := hide (hX0.out.trans (g.mono hX0.out.size)); clear g)
      have hlc := hcellH.out wa ha.out
      have hSa2 := hide (h4.out.2.1.next ha.out)
      clear hld
      go_upto_region 13 with (first
        | (go_at_call 35; refine (hgC.out _ hSa2.out).mono ?_; rintro e wb ⟨rfl, g⟩; have hb := hide (ha.out.trans (g.mono ha.out.size)); clear g)
        | (refine wpList_store_newF rfl 38 (.tmp 13) (.tmp 59) rfl cs rfl rfl 38 _ hfi (by rw [hcz]; rfl) hf1 ?_))
      obtain ⟨fb, hfb⟩ : ∃ b, b = wb.heap.size := ⟨_, rfl⟩
      have hA := alloc_bel (Below.refl wb.heap.size wb) (Nat.le_refl _) (.cells cs 38)
      refine gen_w (fun W => W.heap[fb]? = some (.cells cs 38 (0, 0)) ∧ Below w4.heap.size w4 W) ⟨by rw [hfb]; exact alloc_at1 _ _, hb.out.trans (hA.mono hb.out.size)⟩ ?_
      rw [← hfb]
      clear hA hfb hb hSa2 hlc
      rintro wX ⟨gx1, gx2⟩
      have hX4 := hide gx2
      have hcB := hide (fun W (h : Below wX.heap.size wX W) => (fact_ldF ((h.block _ (Array.getElem?_eq_some_iff.1 gx1).1).trans gx1) hcz : (ldRow 38 (.pointer (some ⟨fb, 0, none⟩))).run Tryz.prog W = .ok (.agg cs) W))
      have hcF2 := hide (fun W (h : Below wX.heap.size wX W) => hcF.out W (hX4.out.trans (h.mono hX4.out.size)))
      have hcI := hide (fun W (h : Below wX.heap.size wX W) => hcellH.out W (hX4.out.trans (h.mono hX4.out.size)))
      clear gx1 gx2 hcF hcellH ha hgC hFid hfi hf1
      obtain ⟨hcF, hcF'⟩ : ∃ h, h = hcF2 := ⟨_, rfl⟩
      clear hcF' hcF2
      by_cases hj0 : 0 < j
      · obtain ⟨ID2, hr2, hlt, hcI2⟩ := hprev.out hj0
        have hlt := hide hlt
        have hcI2 := hide (fun W (h : Below wX.heap.size wX W) => hcI2 W (hX4.out.trans (h.mono hX4.out.size)))
        clear hr2 hprev
        refine wp_region_k (fun _ W => Below wX.heap.size wX W) (fun _ => True) [] (.op 0 (.op 1 (.op 2 (.op 3 (.op 4 (.op 5 (.op 6 (.op 7 (.op 8 (.op 9 (.op 10 (.op 11 (.op 12 (.op 13 (.op 14 (.op 15 (.op 16 (.op 17 (.op 18 (.op 19 (.op 20 (.op 21 (.op 22 (.op 23 (.op 24 (.op 25 (.op 26 (.op 27 (.op 28 (.op 29 (.op 30 (.op 31 (.op 32 (.op 33 (.op 34 (.op 35 (.op 36 (.op 37 (.op 38 (.op 39 (.op 40 (.op 41 (.op 42 .nil))))))))))))))))))))))))))))))))))))))))))) (by kernel_rfl) (by kernel_rfl) (by rfl) (by kernel_rfl) (Below.refl _ wX).drew trivial ?_
        refine k_val (.int .i64 0) (by apply opN; repeat' (first | apply OpAt.z | apply OpAt.s)) (by rfl) (by rfl) (fun _ W hS => op_mv rfl rfl) ?_
        simp only [Act.put, List.setIfInBounds_toArray, List.set_cons_zero, List.set_cons_succ]
        refine k_val (.bool false) (by apply opN; repeat' (first | apply OpAt.z | apply OpAt.s)) (by rfl) (by rfl) (fun _ W hS => op_neE rfl rfl rfl) ?_
        simp only [Act.put, List.setIfInBounds_toArray, List.set_cons_zero, List.set_cons_succ]
        refine k_val (.bool false) (by apply opN; repeat' (first | apply OpAt.z | apply OpAt.s)) (by rfl) (by rfl) (fun _ W hS => op_mv rfl rfl) ?_
        simp only [Act.put, List.setIfInBounds_toArray, List.set_cons_zero, List.set_cons_succ]
        refine k_val (.string ID) (by apply opN; repeat' (first | apply OpAt.z | apply OpAt.s)) (by rfl) (by rfl) (fun _ W hS => op_mv rfl rfl) ?_
        simp only [Act.put, List.setIfInBounds_toArray, List.set_cons_zero, List.set_cons_succ]
        refine k_val (.slice (some ⟨g0, o0, none⟩) n cI) (by apply opN; repeat' (first | apply OpAt.z | apply OpAt.s)) (by rfl) (by rfl) (fun _ W hS => op_mv rfl rfl) ?_
        simp only [Act.put, List.setIfInBounds_toArray, List.set_cons_zero, List.set_cons_succ]
        refine k_val (.int .i64 (j : Int)) (by apply opN; repeat' (first | apply OpAt.z | apply OpAt.s)) (by rfl) (by rfl) (fun _ W hS => op_mv rfl rfl) ?_
        simp only [Act.put, List.setIfInBounds_toArray, List.set_cons_zero, List.set_cons_succ]
        refine k_val (.pointer (some ⟨g0, o0 + j, none⟩)) (by apply opN; repeat' (first | apply OpAt.z | apply OpAt.s)) (by rfl) (by rfl) (fun _ W hS => op_idx_s rfl rfl rfl hjn) ?_
        simp only [Act.put, List.setIfInBounds_toArray, List.set_cons_zero, List.set_cons_succ]
        refine k_val (.string ID) (by apply opN; repeat' (first | apply OpAt.z | apply OpAt.s)) (by rfl) (by rfl) (fun _ W hS => op_ld rfl rfl (str_ld (hcI.out W hS))) ?_
        simp only [Act.put, List.setIfInBounds_toArray, List.set_cons_zero, List.set_cons_succ]
        refine k_val (.bool false) (by apply opN; repeat' (first | apply OpAt.z | apply OpAt.s)) (by rfl) (by rfl) (fun _ W hS => op_neqs rfl rfl rfl (by simp)) ?_
        simp only [Act.put, List.setIfInBounds_toArray, List.set_cons_zero, List.set_cons_succ]
        refine k_val (.bool false) (by apply opN; repeat' (first | apply OpAt.z | apply OpAt.s)) (by rfl) (by rfl) (fun _ W hS => op_pk rfl rfl rfl rfl rfl) ?_
        simp only [Act.put, List.setIfInBounds_toArray, List.set_cons_zero, List.set_cons_succ]
        refine k_val (.bool false) (by apply opN; repeat' (first | apply OpAt.z | apply OpAt.s)) (by rfl) (by rfl) (fun _ W hS => op_mv rfl rfl) ?_
        simp only [Act.put, List.setIfInBounds_toArray, List.set_cons_zero, List.set_cons_succ]
        refine k_val (.bool true) (by apply opN; repeat' (first | apply OpAt.z | apply OpAt.s)) (by rfl) (by rfl) (fun _ W hS => op_mv rfl rfl) ?_
        simp only [Act.put, List.setIfInBounds_toArray, List.set_cons_zero, List.set_cons_succ]
        refine k_val (.bool false) (by apply opN; repeat' (first | apply OpAt.z | apply OpAt.s)) (by rfl) (by rfl) (fun _ W hS => op_noS (p := true) rfl rfl) ?_
        simp only [Act.put, List.setIfInBounds_toArray, List.set_cons_zero, List.set_cons_succ]
        refine k_val (.bool false) (by apply opN; repeat' (first | apply OpAt.z | apply OpAt.s)) (by rfl) (by rfl) (fun _ W hS => op_pk rfl rfl rfl rfl rfl) ?_
        simp only [Act.put, List.setIfInBounds_toArray, List.set_cons_zero, List.set_cons_succ]
        refine k_val (.bool false) (by apply opN; repeat' (first | apply OpAt.z | apply OpAt.s)) (by rfl) (by rfl) (fun _ W hS => op_mv rfl rfl) ?_
        simp only [Act.put, List.setIfInBounds_toArray, List.set_cons_zero, List.set_cons_succ]
        refine k_val (.agg cs) (by apply opN; repeat' (first | apply OpAt.z | apply OpAt.s)) (by rfl) (by rfl) (fun _ W hS => op_ld rfl rfl (hcB.out W hS)) ?_
        simp only [Act.put, List.setIfInBounds_toArray, List.set_cons_zero, List.set_cons_succ]
        refine k_val (.slice (some ⟨g1, o1, none⟩) n cF) (by apply opN; repeat' (first | apply OpAt.z | apply OpAt.s)) (by rfl) (by rfl) (fun _ W hS => op_mv rfl rfl) ?_
        simp only [Act.put, List.setIfInBounds_toArray, List.set_cons_zero, List.set_cons_succ]
        refine k_val (.int .i64 (j : Int)) (by apply opN; repeat' (first | apply OpAt.z | apply OpAt.s)) (by rfl) (by rfl) (fun _ W hS => op_mv rfl rfl) ?_
        simp only [Act.put, List.setIfInBounds_toArray, List.set_cons_zero, List.set_cons_succ]
        refine k_val (.pointer (some ⟨g1, o1 + j * 18, none⟩)) (by apply opN; repeat' (first | apply OpAt.z | apply OpAt.s)) (by rfl) (by rfl) (fun _ W hS => op_ix rfl rfl rfl (ix_fcF hjn W)) ?_
        simp only [Act.put, List.setIfInBounds_toArray, List.set_cons_zero, List.set_cons_succ]
        refine k_val (.agg cs) (by apply opN; repeat' (first | apply OpAt.z | apply OpAt.s)) (by rfl) (by rfl) (fun _ W hS => op_ld rfl rfl (hcF.out W hS)) ?_
        simp only [Act.put, List.setIfInBounds_toArray, List.set_cons_zero, List.set_cons_succ]
        refine k_val (.bool false) (by apply opN; repeat' (first | apply OpAt.z | apply OpAt.s)) (by rfl) (by rfl) (fun _ W hS => op_nesame hcsH.out rfl rfl rfl) ?_
        simp only [Act.put, List.setIfInBounds_toArray, List.set_cons_zero, List.set_cons_succ]
        refine k_val (.bool false) (by apply opN; repeat' (first | apply OpAt.z | apply OpAt.s)) (by rfl) (by rfl) (fun _ W hS => op_pk rfl rfl rfl rfl rfl) ?_
        simp only [Act.put, List.setIfInBounds_toArray, List.set_cons_zero, List.set_cons_succ]
        refine k_val (.bool false) (by apply opN; repeat' (first | apply OpAt.z | apply OpAt.s)) (by rfl) (by rfl) (fun _ W hS => op_mv rfl rfl) ?_
        simp only [Act.put, List.setIfInBounds_toArray, List.set_cons_zero, List.set_cons_succ]
        refine k_val (.string ID) (by apply opN; repeat' (first | apply OpAt.z | apply OpAt.s)) (by rfl) (by rfl) (fun _ W hS => op_mv rfl rfl) ?_
        simp only [Act.put, List.setIfInBounds_toArray, List.set_cons_zero, List.set_cons_succ]
        refine k_val (.int .i64 32) (by apply opN; repeat' (first | apply OpAt.z | apply OpAt.s)) (by rfl) (by rfl) (fun _ W hS => op_lenS rfl rfl (by rw [hIDz.out]; rfl)) ?_
        simp only [Act.put, List.setIfInBounds_toArray, List.set_cons_zero, List.set_cons_succ]
        refine k_val (.bool false) (by apply opN; repeat' (first | apply OpAt.z | apply OpAt.s)) (by rfl) (by rfl) (fun _ W hS => op_neI rfl rfl rfl) ?_
        simp only [Act.put, List.setIfInBounds_toArray, List.set_cons_zero, List.set_cons_succ]
        refine k_val (.bool false) (by apply opN; repeat' (first | apply OpAt.z | apply OpAt.s)) (by rfl) (by rfl) (fun _ W hS => op_pk rfl rfl rfl rfl rfl) ?_
        simp only [Act.put, List.setIfInBounds_toArray, List.set_cons_zero, List.set_cons_succ]
        refine k_val (.bool false) (by apply opN; repeat' (first | apply OpAt.z | apply OpAt.s)) (by rfl) (by rfl) (fun _ W hS => op_mv rfl rfl) ?_
        simp only [Act.put, List.setIfInBounds_toArray, List.set_cons_zero, List.set_cons_succ]
        refine k_val (.int .i64 (j : Int)) (by apply opN; repeat' (first | apply OpAt.z | apply OpAt.s)) (by rfl) (by rfl) (fun _ W hS => op_mv rfl rfl) ?_
        simp only [Act.put, List.setIfInBounds_toArray, List.set_cons_zero, List.set_cons_succ]
        refine k_val (.bool true) (by apply opN; repeat' (first | apply OpAt.z | apply OpAt.s)) (by rfl) (by rfl) (fun _ W hS => op_gtD rfl rfl rfl (by simpa using hj0)) ?_
        simp only [Act.put, List.setIfInBounds_toArray, List.set_cons_zero, List.set_cons_succ]
        refine k_val (.bool true) (by apply opN; repeat' (first | apply OpAt.z | apply OpAt.s)) (by rfl) (by rfl) (fun _ W hS => op_mv rfl rfl) ?_
        simp only [Act.put, List.setIfInBounds_toArray, List.set_cons_zero, List.set_cons_succ]
        refine k_val (.slice (some ⟨g0, o0, none⟩) n cI) (by apply opN; repeat' (first | apply OpAt.z | apply OpAt.s)) (by rfl) (by rfl) (fun _ W hS => op_mv rfl rfl) ?_
        simp only [Act.put, List.setIfInBounds_toArray, List.set_cons_zero, List.set_cons_succ]
        refine k_val (.int .i64 (j : Int)) (by apply opN; repeat' (first | apply OpAt.z | apply OpAt.s)) (by rfl) (by rfl) (fun _ W hS => op_mv rfl rfl) ?_
        simp only [Act.put, List.setIfInBounds_toArray, List.set_cons_zero, List.set_cons_succ]
        refine k_val (.pointer (some ⟨g0, o0 + j, none⟩)) (by apply opN; repeat' (first | apply OpAt.z | apply OpAt.s)) (by rfl) (by rfl) (fun _ W hS => op_idx_s rfl rfl rfl hjn) ?_
        simp only [Act.put, List.setIfInBounds_toArray, List.set_cons_zero, List.set_cons_succ]
        refine k_val (.string ID) (by apply opN; repeat' (first | apply OpAt.z | apply OpAt.s)) (by rfl) (by rfl) (fun _ W hS => op_ld rfl rfl (str_ld (hcI.out W hS))) ?_
        simp only [Act.put, List.setIfInBounds_toArray, List.set_cons_zero, List.set_cons_succ]
        refine k_val (.slice (some ⟨g0, o0, none⟩) n cI) (by apply opN; repeat' (first | apply OpAt.z | apply OpAt.s)) (by rfl) (by rfl) (fun _ W hS => op_mv rfl rfl) ?_
        simp only [Act.put, List.setIfInBounds_toArray, List.set_cons_zero, List.set_cons_succ]
        refine k_val (.int .i64 (j : Int)) (by apply opN; repeat' (first | apply OpAt.z | apply OpAt.s)) (by rfl) (by rfl) (fun _ W hS => op_mv rfl rfl) ?_
        simp only [Act.put, List.setIfInBounds_toArray, List.set_cons_zero, List.set_cons_succ]
        refine k_val (.int .i64 ((j - 1 : Nat) : Int)) (by apply opN; repeat' (first | apply OpAt.z | apply OpAt.s)) (by rfl) (by rfl) (fun _ W hS => op_subD rfl rfl rfl (by omega) (by omega)) ?_
        simp only [Act.put, List.setIfInBounds_toArray, List.set_cons_zero, List.set_cons_succ]
        refine k_val (.pointer (some ⟨g0, o0 + (j - 1), none⟩)) (by apply opN; repeat' (first | apply OpAt.z | apply OpAt.s)) (by rfl) (by rfl) (fun _ W hS => op_idx_s rfl rfl rfl (by omega)) ?_
        simp only [Act.put, List.setIfInBounds_toArray, List.set_cons_zero, List.set_cons_succ]
        refine k_val (.string ID2) (by apply opN; repeat' (first | apply OpAt.z | apply OpAt.s)) (by rfl) (by rfl) (fun _ W hS => op_ld rfl rfl (str_ld (hcI2.out W hS))) ?_
        simp only [Act.put, List.setIfInBounds_toArray, List.set_cons_zero, List.set_cons_succ]
        refine k_val (.bool false) (by apply opN; repeat' (first | apply OpAt.z | apply OpAt.s)) (by rfl) (by rfl) (fun _ W hS => op_leS rfl rfl rfl (by rw [hlt.out]; rfl)) ?_
        simp only [Act.put, List.setIfInBounds_toArray, List.set_cons_zero, List.set_cons_succ]
        refine k_val (.bool false) (by apply opN; repeat' (first | apply OpAt.z | apply OpAt.s)) (by rfl) (by rfl) (fun _ W hS => op_pk rfl rfl rfl rfl rfl) ?_
        simp only [Act.put, List.setIfInBounds_toArray, List.set_cons_zero, List.set_cons_succ]
        refine k_val (.bool false) (by apply opN; repeat' (first | apply OpAt.z | apply OpAt.s)) (by rfl) (by rfl) (fun _ W hS => op_pk rfl rfl rfl rfl rfl) ?_
        simp only [Act.put, List.setIfInBounds_toArray, List.set_cons_zero, List.set_cons_succ]
        refine k_nil ?_
        intro W hCW _
        have hCWH := hide (hCW : Below wX.heap.size wX W)
        clear hCW
        cases q with
        | true =>
          go_wp2
          go_roundw
          case rel => exact ⟨j + 1, true, rfl, by go_num, by omega, ⟨fun _ => by rw [htk.out]; exact List.mem_append_left _ (hQ.out.1.1 rfl), fun _ => rfl⟩, by rw [hNH.out]; exact hX4.out.trans (hCWH.out.mono hX4.out.size)⟩
          case measure => simp [intOf]; omega
        | false =>
          obtain ⟨q2, hq2⟩ : ∃ b, b = decide (ID = id) := ⟨_, rfl⟩
          have hEq : (ID.toList == id.toList) = q2 := by rw [str_eqF, hq2]
          have hq2H := hide hq2
          have hcc := hcI.out W hCWH.out
          clear hq2
          go_wp2
          go_roundw
          case rel =>
            refine ⟨j + 1, q2, rfl, by go_num, by omega, ⟨fun h => ?_, fun h => ?_⟩, by rw [hNH.out]; exact hX4.out.trans (hCWH.out.mono hX4.out.size)⟩
            · rw [htk.out]
              rw [hq2H.out, decide_eq_true_eq] at h
              exact List.mem_append_right _ (by rw [h]; exact List.mem_singleton.2 rfl)
            · rw [htk.out] at h
              rw [hq2H.out, decide_eq_true_eq]
              rcases List.mem_append.1 h with h | h
              · exact absurd (hQ.out.1.2 h) (by simp)
              · exact (List.mem_singleton.1 h).symm
          case measure => simp [intOf]; omega
      · clear hprev
        refine wp_region_k (fun _ W => Below wX.heap.size wX W) (fun _ => True) [] (.op 0 (.op 1 (.op 2 (.op 3 (.op 4 (.op 5 (.op 6 (.op 7 (.op 8 (.op 9 (.op 10 (.op 11 (.op 12 (.op 13 (.op 14 (.op 15 (.op 16 (.op 17 (.op 18 (.op 19 (.op 20 (.op 21 (.op 22 (.op 23 (.op 24 (.op 25 (.op 26 (.op 27 (.op 28 (.op 29 (.op 30 (.op 31 (.op 32 (.op 33 (.op 34 (.op 35 (.op 36 (.op 37 (.op 38 (.op 39 (.op 40 (.op 41 (.op 42 .nil))))))))))))))))))))))))))))))))))))))))))) (by kernel_rfl) (by kernel_rfl) (by rfl) (by kernel_rfl) (Below.refl _ wX).drew trivial ?_
        refine k_val (.int .i64 0) (by apply opN; repeat' (first | apply OpAt.z | apply OpAt.s)) (by rfl) (by rfl) (fun _ W hS => op_mv rfl rfl) ?_
        simp only [Act.put, List.setIfInBounds_toArray, List.set_cons_zero, List.set_cons_succ]
        refine k_val (.bool false) (by apply opN; repeat' (first | apply OpAt.z | apply OpAt.s)) (by rfl) (by rfl) (fun _ W hS => op_neE rfl rfl rfl) ?_
        simp only [Act.put, List.setIfInBounds_toArray, List.set_cons_zero, List.set_cons_succ]
        refine k_val (.bool false) (by apply opN; repeat' (first | apply OpAt.z | apply OpAt.s)) (by rfl) (by rfl) (fun _ W hS => op_mv rfl rfl) ?_
        simp only [Act.put, List.setIfInBounds_toArray, List.set_cons_zero, List.set_cons_succ]
        refine k_val (.string ID) (by apply opN; repeat' (first | apply OpAt.z | apply OpAt.s)) (by rfl) (by rfl) (fun _ W hS => op_mv rfl rfl) ?_
        simp only [Act.put, List.setIfInBounds_toArray, List.set_cons_zero, List.set_cons_succ]
        refine k_val (.slice (some ⟨g0, o0, none⟩) n cI) (by apply opN; repeat' (first | apply OpAt.z | apply OpAt.s)) (by rfl) (by rfl) (fun _ W hS => op_mv rfl rfl) ?_
        simp only [Act.put, List.setIfInBounds_toArray, List.set_cons_zero, List.set_cons_succ]
        refine k_val (.int .i64 (j : Int)) (by apply opN; repeat' (first | apply OpAt.z | apply OpAt.s)) (by rfl) (by rfl) (fun _ W hS => op_mv rfl rfl) ?_
        simp only [Act.put, List.setIfInBounds_toArray, List.set_cons_zero, List.set_cons_succ]
        refine k_val (.pointer (some ⟨g0, o0 + j, none⟩)) (by apply opN; repeat' (first | apply OpAt.z | apply OpAt.s)) (by rfl) (by rfl) (fun _ W hS => op_idx_s rfl rfl rfl hjn) ?_
        simp only [Act.put, List.setIfInBounds_toArray, List.set_cons_zero, List.set_cons_succ]
        refine k_val (.string ID) (by apply opN; repeat' (first | apply OpAt.z | apply OpAt.s)) (by rfl) (by rfl) (fun _ W hS => op_ld rfl rfl (str_ld (hcI.out W hS))) ?_
        simp only [Act.put, List.setIfInBounds_toArray, List.set_cons_zero, List.set_cons_succ]
        refine k_val (.bool false) (by apply opN; repeat' (first | apply OpAt.z | apply OpAt.s)) (by rfl) (by rfl) (fun _ W hS => op_neqs rfl rfl rfl (by simp)) ?_
        simp only [Act.put, List.setIfInBounds_toArray, List.set_cons_zero, List.set_cons_succ]
        refine k_val (.bool false) (by apply opN; repeat' (first | apply OpAt.z | apply OpAt.s)) (by rfl) (by rfl) (fun _ W hS => op_pk rfl rfl rfl rfl rfl) ?_
        simp only [Act.put, List.setIfInBounds_toArray, List.set_cons_zero, List.set_cons_succ]
        refine k_val (.bool false) (by apply opN; repeat' (first | apply OpAt.z | apply OpAt.s)) (by rfl) (by rfl) (fun _ W hS => op_mv rfl rfl) ?_
        simp only [Act.put, List.setIfInBounds_toArray, List.set_cons_zero, List.set_cons_succ]
        refine k_val (.bool true) (by apply opN; repeat' (first | apply OpAt.z | apply OpAt.s)) (by rfl) (by rfl) (fun _ W hS => op_mv rfl rfl) ?_
        simp only [Act.put, List.setIfInBounds_toArray, List.set_cons_zero, List.set_cons_succ]
        refine k_val (.bool false) (by apply opN; repeat' (first | apply OpAt.z | apply OpAt.s)) (by rfl) (by rfl) (fun _ W hS => op_noS (p := true) rfl rfl) ?_
        simp only [Act.put, List.setIfInBounds_toArray, List.set_cons_zero, List.set_cons_succ]
        refine k_val (.bool false) (by apply opN; repeat' (first | apply OpAt.z | apply OpAt.s)) (by rfl) (by rfl) (fun _ W hS => op_pk rfl rfl rfl rfl rfl) ?_
        simp only [Act.put, List.setIfInBounds_toArray, List.set_cons_zero, List.set_cons_succ]
        refine k_val (.bool false) (by apply opN; repeat' (first | apply OpAt.z | apply OpAt.s)) (by rfl) (by rfl) (fun _ W hS => op_mv rfl rfl) ?_
        simp only [Act.put, List.setIfInBounds_toArray, List.set_cons_zero, List.set_cons_succ]
        refine k_val (.agg cs) (by apply opN; repeat' (first | apply OpAt.z | apply OpAt.s)) (by rfl) (by rfl) (fun _ W hS => op_ld rfl rfl (hcB.out W hS)) ?_
        simp only [Act.put, List.setIfInBounds_toArray, List.set_cons_zero, List.set_cons_succ]
        refine k_val (.slice (some ⟨g1, o1, none⟩) n cF) (by apply opN; repeat' (first | apply OpAt.z | apply OpAt.s)) (by rfl) (by rfl) (fun _ W hS => op_mv rfl rfl) ?_
        simp only [Act.put, List.setIfInBounds_toArray, List.set_cons_zero, List.set_cons_succ]
        refine k_val (.int .i64 (j : Int)) (by apply opN; repeat' (first | apply OpAt.z | apply OpAt.s)) (by rfl) (by rfl) (fun _ W hS => op_mv rfl rfl) ?_
        simp only [Act.put, List.setIfInBounds_toArray, List.set_cons_zero, List.set_cons_succ]
        refine k_val (.pointer (some ⟨g1, o1 + j * 18, none⟩)) (by apply opN; repeat' (first | apply OpAt.z | apply OpAt.s)) (by rfl) (by rfl) (fun _ W hS => op_ix rfl rfl rfl (ix_fcF hjn W)) ?_
        simp only [Act.put, List.setIfInBounds_toArray, List.set_cons_zero, List.set_cons_succ]
        refine k_val (.agg cs) (by apply opN; repeat' (first | apply OpAt.z | apply OpAt.s)) (by rfl) (by rfl) (fun _ W hS => op_ld rfl rfl (hcF.out W hS)) ?_
        simp only [Act.put, List.setIfInBounds_toArray, List.set_cons_zero, List.set_cons_succ]
        refine k_val (.bool false) (by apply opN; repeat' (first | apply OpAt.z | apply OpAt.s)) (by rfl) (by rfl) (fun _ W hS => op_nesame hcsH.out rfl rfl rfl) ?_
        simp only [Act.put, List.setIfInBounds_toArray, List.set_cons_zero, List.set_cons_succ]
        refine k_val (.bool false) (by apply opN; repeat' (first | apply OpAt.z | apply OpAt.s)) (by rfl) (by rfl) (fun _ W hS => op_pk rfl rfl rfl rfl rfl) ?_
        simp only [Act.put, List.setIfInBounds_toArray, List.set_cons_zero, List.set_cons_succ]
        refine k_val (.bool false) (by apply opN; repeat' (first | apply OpAt.z | apply OpAt.s)) (by rfl) (by rfl) (fun _ W hS => op_mv rfl rfl) ?_
        simp only [Act.put, List.setIfInBounds_toArray, List.set_cons_zero, List.set_cons_succ]
        refine k_val (.string ID) (by apply opN; repeat' (first | apply OpAt.z | apply OpAt.s)) (by rfl) (by rfl) (fun _ W hS => op_mv rfl rfl) ?_
        simp only [Act.put, List.setIfInBounds_toArray, List.set_cons_zero, List.set_cons_succ]
        refine k_val (.int .i64 32) (by apply opN; repeat' (first | apply OpAt.z | apply OpAt.s)) (by rfl) (by rfl) (fun _ W hS => op_lenS rfl rfl (by rw [hIDz.out]; rfl)) ?_
        simp only [Act.put, List.setIfInBounds_toArray, List.set_cons_zero, List.set_cons_succ]
        refine k_val (.bool false) (by apply opN; repeat' (first | apply OpAt.z | apply OpAt.s)) (by rfl) (by rfl) (fun _ W hS => op_neI rfl rfl rfl) ?_
        simp only [Act.put, List.setIfInBounds_toArray, List.set_cons_zero, List.set_cons_succ]
        refine k_val (.bool false) (by apply opN; repeat' (first | apply OpAt.z | apply OpAt.s)) (by rfl) (by rfl) (fun _ W hS => op_pk rfl rfl rfl rfl rfl) ?_
        simp only [Act.put, List.setIfInBounds_toArray, List.set_cons_zero, List.set_cons_succ]
        refine k_val (.bool false) (by apply opN; repeat' (first | apply OpAt.z | apply OpAt.s)) (by rfl) (by rfl) (fun _ W hS => op_mv rfl rfl) ?_
        simp only [Act.put, List.setIfInBounds_toArray, List.set_cons_zero, List.set_cons_succ]
        refine k_val (.int .i64 (j : Int)) (by apply opN; repeat' (first | apply OpAt.z | apply OpAt.s)) (by rfl) (by rfl) (fun _ W hS => op_mv rfl rfl) ?_
        simp only [Act.put, List.setIfInBounds_toArray, List.set_cons_zero, List.set_cons_succ]
        refine k_val (.bool false) (by apply opN; repeat' (first | apply OpAt.z | apply OpAt.s)) (by rfl) (by rfl) (fun _ W hS => op_gtD rfl rfl rfl (by simp [hj0])) ?_
        simp only [Act.put, List.setIfInBounds_toArray, List.set_cons_zero, List.set_cons_succ]
        refine k_val (.bool false) (by apply opN; repeat' (first | apply OpAt.z | apply OpAt.s)) (by rfl) (by rfl) (fun _ W hS => op_mv rfl rfl) ?_
        simp only [Act.put, List.setIfInBounds_toArray, List.set_cons_zero, List.set_cons_succ]
        refine k_skip (by apply opN; repeat' (first | apply OpAt.z | apply OpAt.s)) (by rfl) (by rfl) ?_
        simp only [Act.put, List.setIfInBounds_toArray, List.set_cons_zero, List.set_cons_succ]
        refine k_skip (by apply opN; repeat' (first | apply OpAt.z | apply OpAt.s)) (by rfl) (by rfl) ?_
        simp only [Act.put, List.setIfInBounds_toArray, List.set_cons_zero, List.set_cons_succ]
        refine k_skip (by apply opN; repeat' (first | apply OpAt.z | apply OpAt.s)) (by rfl) (by rfl) ?_
        simp only [Act.put, List.setIfInBounds_toArray, List.set_cons_zero, List.set_cons_succ]
        refine k_skip (by apply opN; repeat' (first | apply OpAt.z | apply OpAt.s)) (by rfl) (by rfl) ?_
        simp only [Act.put, List.setIfInBounds_toArray, List.set_cons_zero, List.set_cons_succ]
        refine k_skip (by apply opN; repeat' (first | apply OpAt.z | apply OpAt.s)) (by rfl) (by rfl) ?_
        simp only [Act.put, List.setIfInBounds_toArray, List.set_cons_zero, List.set_cons_succ]
        refine k_skip (by apply opN; repeat' (first | apply OpAt.z | apply OpAt.s)) (by rfl) (by rfl) ?_
        simp only [Act.put, List.setIfInBounds_toArray, List.set_cons_zero, List.set_cons_succ]
        refine k_skip (by apply opN; repeat' (first | apply OpAt.z | apply OpAt.s)) (by rfl) (by rfl) ?_
        simp only [Act.put, List.setIfInBounds_toArray, List.set_cons_zero, List.set_cons_succ]
        refine k_skip (by apply opN; repeat' (first | apply OpAt.z | apply OpAt.s)) (by rfl) (by rfl) ?_
        simp only [Act.put, List.setIfInBounds_toArray, List.set_cons_zero, List.set_cons_succ]
        refine k_skip (by apply opN; repeat' (first | apply OpAt.z | apply OpAt.s)) (by rfl) (by rfl) ?_
        simp only [Act.put, List.setIfInBounds_toArray, List.set_cons_zero, List.set_cons_succ]
        refine k_skip (by apply opN; repeat' (first | apply OpAt.z | apply OpAt.s)) (by rfl) (by rfl) ?_
        simp only [Act.put, List.setIfInBounds_toArray, List.set_cons_zero, List.set_cons_succ]
        refine k_val (.bool false) (by apply opN; repeat' (first | apply OpAt.z | apply OpAt.s)) (by rfl) (by rfl) (fun _ W hS => op_pk rfl rfl (hy := rfl) rfl rfl) ?_
        simp only [Act.put, List.setIfInBounds_toArray, List.set_cons_zero, List.set_cons_succ]
        refine k_val (.bool false) (by apply opN; repeat' (first | apply OpAt.z | apply OpAt.s)) (by rfl) (by rfl) (fun _ W hS => op_pk rfl rfl rfl rfl rfl) ?_
        simp only [Act.put, List.setIfInBounds_toArray, List.set_cons_zero, List.set_cons_succ]
        refine k_nil ?_
        intro W hCW _
        have hCWH := hide (hCW : Below wX.heap.size wX W)
        clear hCW
        cases q with
        | true =>
          go_wp2
          go_roundw
          case rel => exact ⟨j + 1, true, rfl, by go_num, by omega, ⟨fun _ => by rw [htk.out]; exact List.mem_append_left _ (hQ.out.1.1 rfl), fun _ => rfl⟩, by rw [hNH.out]; exact hX4.out.trans (hCWH.out.mono hX4.out.size)⟩
          case measure => simp [intOf]; omega
        | false =>
          obtain ⟨q2, hq2⟩ : ∃ b, b = decide (ID = id) := ⟨_, rfl⟩
          have hEq : (ID.toList == id.toList) = q2 := by rw [str_eqF, hq2]
          have hq2H := hide hq2
          have hcc := hcI.out W hCWH.out
          clear hq2
          go_wp2
          go_roundw
          case rel =>
            refine ⟨j + 1, q2, rfl, by go_num, by omega, ⟨fun h => ?_, fun h => ?_⟩, by rw [hNH.out]; exact hX4.out.trans (hCWH.out.mono hX4.out.size)⟩
            · rw [htk.out]
              rw [hq2H.out, decide_eq_true_eq] at h
              exact List.mem_append_right _ (by rw [h]; exact List.mem_singleton.2 rfl)
            · rw [htk.out] at h
              rw [hq2H.out, decide_eq_true_eq]
              rcases List.mem_append.1 h with h | h
              · exact absurd (hQ.out.1.2 h) (by simp)
              · exact (List.mem_singleton.1 h).symm
          case measure => simp [intOf]; omega
    · obtain rfl : n = j := by omega
      have hkn := hide (show q = true ↔ id ∈ ids from by have h := hQ.out.1; rwa [← hn2H.out, List.take_length] at h)
      have hS5 := hide (h4.out.2.1.next hX0.out)
      have hIO := hide (own_keep h4.out.2.2.2 fun g hg => hX0.out.block _ (own_blk h4.out.2.2.2 hg).2.1)
      have hFO := hide (own_keep h4.out.1 fun g hg => hX0.out.block _ (own_blk h4.out.1 hg).2.1)
      have hB5 := hide (bel_cat h4.out.2.2.1 hBle.out hX0.out)
      have hgq : (KM.get id C).isSome = q := by
        rw [Bool.eq_iff_iff, hkn.out, ← hCiH.out, RW.get_isSome]
      obtain ⟨y0, hy0⟩ := hOC.out.fvs.get id
      have hz0 := hide (show q = false → y0 = y0 ∧ RW.fv y0 = RW.fv RW.zeroFv from fun h => by
        rw [h] at hgq
        have : KM.get id C = none := by cases e : KM.get id C with
          | none => rfl
          | some v => rw [e] at hgq; cases hgq
        rw [this] at hy0
        exact ⟨rfl, hy0.symm⟩)
      have hGt := hide (sget_any sb1 mb1 C id wo hS5.out)
      have hHs := hide (fun W (h : SetAt W sb1 mb1 C) => shas_any sb1 mb1 C id W h)
      rw [hy0, hgq] at hGt
      rw [hgq] at hHs
      have hfi := fact_infoF y0.1 y0.2
      have hf1 := fcells_oneF y0.1 y0.2
      obtain ⟨cs, hcs⟩ : ∃ cs, cs = RW.fcells y0.1 y0.2 := ⟨_, rfl⟩
      have hcz : cs.size = 18 := by rw [hcs]; rfl
      rw [show RW.fv y0 = .agg cs by rw [hcs]; rfl] at hGt hz0
      rw [← hcs] at hfi hf1
      have hcsH := hide hcs
      clear hcs hy0 hgq hQ h4 hX0 hIR hFR hNH
      go_upto_region 17 with (first
        | (go_at_call 35; refine hGt.out.mono ?_; rintro e wb ⟨rfl, g⟩; have hb := hide (And.intro (hS5.out.next g) (And.intro (bel_cat hB5.out hBle.out g) (And.intro (own_keep hIO.out fun x hx => g.block _ (own_blk hIO.out hx).2.1) (own_keep hFO.out fun x hx => g.block _ (own_blk hFO.out hx).2.1)))); clear g)
        | (refine wpList_store_newF rfl 38 (.tmp 15) (.tmp 117) rfl cs rfl rfl 38 _ hfi (by rw [hcz]; rfl) hf1 ?_))
      obtain ⟨fb, hfb⟩ : ∃ b, b = wb.heap.size := ⟨_, rfl⟩
      have hA := alloc_bel (Below.refl wb.heap.size wb) (Nat.le_refl _) (.cells cs 38)
      refine gen_w (fun W => W.heap[fb]? = some (.cells cs 38 (0, 0)) ∧ SetAt W sb1 mb1 C ∧ Below B w W ∧ W.ownsRow B0 9 1 (.slice aI n cI) n (ids.map Value.string) ∧ OwnF W B0 (.slice aF n cF) kc) ⟨by rw [hfb]; exact alloc_at1 _ _, hb.out.1.next hA, bel_cat hb.out.2.1 hBle.out hA, own_keep hb.out.2.2.1 (fun x hx => hA.block _ (own_blk hb.out.2.2.1 hx).2.1), by have h := own_keep hb.out.2.2.2 (fun x hx => hA.block _ (own_blk hb.out.2.2.2 hx).2.1); rw [OwnF, ← hnH.out]; exact h⟩ ?_
      rw [← hfb]
      clear hA hfb hb hS5 hB5 hIO hFO hGt
      rintro wX ⟨gx1, gx2, gx3, gx4, gx5⟩
      have hX := hide (And.intro gx2 (And.intro gx3 (And.intro gx4 gx5)))
      have hl15 := fact_ldF gx1 hcz
      have hfbl := hide (Array.getElem?_eq_some_iff.1 gx1).1
      have hfbH := hide gx1
      clear gx1 gx2 gx3 gx4 gx5
      have hHX := hide (hHs.out wX hX.out.1)
      cases q with
      | false =>
        have hcs0 : cs = RW.fcells RW.zeroFv.1 RW.zeroFv.2 := by
          have h := (hz0.out rfl).2
          rw [show RW.fv RW.zeroFv = .agg (RW.fcells RW.zeroFv.1 RW.zeroFv.2) from rfl] at h
          injection h
        have hNE : ∀ W, (binOp .neq 38 (.agg cs) (.agg #[.int .i64 0, .int .i64 0, .int .i64 0, .int .i64 0, .int .i64 0, .int .i64 0, .int .i64 0, .int .i64 0, .int .i64 0, .int .i64 0, .int .i64 0, .int .i64 0, .int .i64 0, .int .i64 0, .int .i64 0, .int .i64 0, .int .i64 0, .string ⟨#[]⟩])).run Tryz.prog W = .ok (.bool false) W := fun W => by
          rw [show #[.int .i64 0, .int .i64 0, .int .i64 0, .int .i64 0, .int .i64 0, .int .i64 0, .int .i64 0, .int .i64 0, .int .i64 0, .int .i64 0, .int .i64 0, .int .i64 0, .int .i64 0, .int .i64 0, .int .i64 0, .int .i64 0, .int .i64 0, .string ⟨#[]⟩] = cs by rw [hcs0]; rfl]
          exact ne_sameF hcs0 W
        have hl15f := hide (fun W (h : Below wX.heap.size wX W) => (fact_ldF ((h.block _ hfbl.out).trans hfbH.out) hcz : (ldRow 38 (.pointer (some ⟨fb, 0, none⟩))).run Tryz.prog W = .ok (.agg cs) W))
        clear hcs0 hl15 hz0
        go_upto_region 19 with (go_at_call 37; refine hHX.out.mono ?_; rintro e wY ⟨rfl, g⟩; have hY := hide (And.intro (hX.out.1.next g) (And.intro (bel_cat hX.out.2.1 hBle.out g) (And.intro (own_keep hX.out.2.2.1 fun x hx => g.block _ (own_blk hX.out.2.2.1 hx).2.1) (own_keep hX.out.2.2.2 fun x hx => g.block _ (own_blk hX.out.2.2.2 hx).2.1)))); have hl15 := hl15f.out _ g; clear g)
        clear hl15 hNE
        clear hX hHX hfbl hfbH hHs hfi hf1
        go_wp2
        go_loopw [17] (fun i wr => ∃ (j : Nat), i = .int .i64 j ∧ j ≤ n ∧ Hid (∃ (l1 : List ByteArray) (l2 : List RW.Fc), wr.ownsRow B0 9 1 (.slice aI n cI) n (l1.map Value.string) ∧ l1.length = n ∧ wr.ownsRow B0 38 18 (.slice aF n cF) n (rowCells RW.fce l2) ∧ l2.length = n ∧ ChgS (fun k => B0 ≤ k) wY wr)) (fun i _ => n - (intOf i).toNat)
        case atStart => exact ⟨0, rfl, Nat.zero_le _, ids, kc, hY.out.2.2.1, hn2H.out, by have h := hY.out.2.2.2; unfold OwnF at h; rw [← hnH.out] at h; exact h, hnH.out.symm, ChgS.refl _ _⟩
        case round =>
          obtain ⟨j, rfl, hj, hT⟩ := hrel
          obtain ⟨wo2, hwo2⟩ : ∃ wo, wo = wr := ⟨_, rfl⟩
          subst hwo2
          obtain ⟨l1, l2, hT1, hT2, hT3, hT4, hT5⟩ := hT.out
          have hT1 := hide hT1
          have hT2 := hide hT2
          have hT3 := hide hT3
          have hT4 := hide hT4
          have hT5 := hide hT5
          by_cases hjn : j < n
          · obtain ⟨gI, cI', curI, eI, hgB, hgI, hgn, hgm, hgs, _⟩ := (hT1.out.2).resolve_left (fun h => by have := h.2; omega)
            obtain ⟨gF, cF', curF, eF, hfB, hgF, hfn, hfm, hfs, _⟩ := (hT3.out.2).resolve_left (fun h => by have := h.2; omega)
            cases eI
            cases eF
            have hne := hide (show gI ≠ gF from blocks_ne hgI hgF (by decide))
            obtain ⟨vv, cc⟩ : ∃ vv, wo2.cell? ⟨gI, j, none⟩ = some vv := ⟨_, (cellAt hgI j).trans (Array.getElem?_eq_getElem (by omega))⟩
            have cf : wo2.frozen? ⟨gI, j, none⟩ = false := by simp [World.frozen?, hgI]
            have hst := hide (set_strF (l := l1) (s := ⟨#[120]⟩) (by have h := hT1.out; rw [← hT2.out] at h; exact h) (i := j) (by rw [hT2.out]; exact hjn))
            have hFk := hide (own_keep (W' := wo2.setCell ⟨gI, j, none⟩ (.string ⟨#[120]⟩)) hT3.out fun x hx => by
              cases hx
              exact Below.heap_setCell _ _ _ _ (fun e => hne.out e.symm))
            have hth : (wo2.setCell ⟨gI, j, none⟩ (.string ⟨#[120]⟩)).there gF (j * 18) (RW.fcells RW.zeroFv.1 RW.zeroFv.2).size := own_there (l := l2) hFk.out (j * 18) 18 (by omega)
            have hset := hide (own_set fcl_len (by decide) (by have h := hFk.out; rw [← hT4.out] at h; exact h) j (by rw [hT4.out]; exact hjn) RW.zeroFv)
            have hfz := fact_infoF RW.zeroFv.1 RW.zeroFv.2
            have hfo := fcells_oneF RW.zeroFv.1 RW.zeroFv.2
            have hIk := hide (own_keep (W' := (wo2.setCell ⟨gI, j, none⟩ (.string ⟨#[120]⟩)).setCells gF (j * 18) (RW.fcells RW.zeroFv.1 RW.zeroFv.2).toList) hst.out fun x hx => by
              cases hx
              exact (setCells_grown _ _ _ _).block _ (by rw [World.setCell]; simp; exact (Array.getElem?_eq_some_iff.1 hgI).1) (fun e => hne.out (Option.some.inj e)))
            have hCk := hide (show ChgS (fun k => B0 ≤ k) wY ((wo2.setCell ⟨gI, j, none⟩ (.string ⟨#[120]⟩)).setCells gF (j * 18) (RW.fcells RW.zeroFv.1 RW.zeroFv.2).toList) from (hT5.out.set hgB _).grown (setCells_grown _ _ _ _) fun k e => by cases e; exact hfB)
            have hld3 := fun W => ix_fcF (b := gF) (o := 0) (c := cF) hjn W
            rw [Nat.zero_add] at hld3
            clear hgI hgF hgs hfs hgm hfm hgB hfB hgn hfn
            go_wp2_with (refine wpList_store_mid rfl 38 (.tmp 150) (.tmp 149) rfl gF (j * 18) (RW.fcells RW.zeroFv.1 RW.zeroFv.2) rfl rfl hth hfz hfo ?_; refine gen_wlF (fun W => W.ownsRow B0 9 1 (.slice (some ⟨gI, 0, none⟩) n cI) n ((l1.set j ⟨#[120]⟩).map Value.string) ∧ W.ownsRow B0 38 18 (.slice (some ⟨gF, 0, none⟩) n cF) n (rowCells RW.fce (l2.set j RW.zeroFv)) ∧ ChgS (fun k => B0 ≤ k) wY W) ⟨by have h := hIk.out; rw [hT2.out] at h; exact h, by have h := hset.out; rw [hT4.out] at h; exact h, hCk.out⟩ ?_; rintro wE ⟨gE1, gE2, gE3⟩; have hE := hide (And.intro gE1 (And.intro gE2 gE3)); clear gE1 gE2 gE3 hIk hset hCk hth cc cf hfz hfo hld3)
            go_roundw
            case rel => exact ⟨j + 1, by go_num, by omega, l1.set j ⟨#[120]⟩, l2.set j RW.zeroFv, hE.out.1, by rw [List.length_set]; exact hT2.out, hE.out.2.1, by rw [List.length_set]; exact hT4.out, hE.out.2.2⟩
            case measure => simp [intOf]; omega
          · obtain rfl : n = j := by omega
            have hZ := hide (show SetAt wo2 sb1 mb1 C ∧ Below B w wo2 from ⟨hY.out.1.chg hT5.out (by have := hB0s.out.1; omega) (by have := hB0s.out.2.1; omega), hY.out.2.1.trans (hT5.out.belowJ (B := B) (fun k h => Nat.le_trans hB0s.out.2.2 h) (by rw [hBH.out]; exact (hBH.out ▸ hY.out.2.1 : Below w.heap.size w wY).size))⟩)
            have hSm := hide (fun W s1 m1 s2 m2 (h1 : SetAt W s1 m1 C) (h2 : SetAt W s2 m2 C) (hb : Below B w W) => same_any RW.k0F ks hksH.out s1 m1 s2 m2 C C W h1 h2 (by omega) (by omega) hOC.out.keyle hOC.out.keyle (hKW.out W hb))
            clear hT hT1 hT2 hT3 hT4 hT5 hY
            go_wp2_with (first
              | (go_at_call 12; refine (hCut.out _ hZ.out.2).mono ?_; rintro e wC2 ⟨uC2, rfl, g1, g2⟩; have hC2 := hide (And.intro g1 (And.intro (bel_cat hZ.out.2 hBle.out g2) (hZ.out.1.next g2))); clear g1 g2)
              | (go_at_call 13; refine (hOf.out _ _ hC2.out.1.facts hC2.out.2.1).mono ?_; rintro e wO2 ⟨sb2, mb2, rfl, g1, g2, g3, g4⟩; have hO2 := hide (And.intro g1 (And.intro (bel_cat hC2.out.2.1 hBle.out g4) (hC2.out.2.2.next g4))); clear g1 g2 g3 g4)
              | (go_at_call 39; refine (hSm.out _ sb1 mb1 sb2 mb2 hO2.out.2.2 hO2.out.1 hO2.out.2.1).mono ?_; rintro e wZ2 ⟨⟨b, rfl, hb⟩, g⟩; have hZ2 := hide (bel_cat hO2.out.2.1 hBle.out g); have hbt := hb (by trivial); subst hbt; clear g hb))
            go_ret
            exact ⟨by simp, hZ2.out⟩
      | true =>
        clear hl15 hz0
        go_upto_region 19 with (go_at_call 37; refine hHX.out.mono ?_; rintro e wY ⟨rfl, g⟩; have hY := hide (And.intro (hX.out.1.next g) (And.intro (bel_cat hX.out.2.1 hBle.out g) (And.intro (own_keep hX.out.2.2.1 fun x hx => g.block _ (own_blk hX.out.2.2.1 hx).2.1) (own_keep hX.out.2.2.2 fun x hx => g.block _ (own_blk hX.out.2.2.2 hx).2.1)))); clear g)
        clear hX hHX hfbl hfbH hHs hfi hf1
        go_wp2
        go_loopw [17] (fun i wr => ∃ (j : Nat), i = .int .i64 j ∧ j ≤ n ∧ Hid (∃ (l1 : List ByteArray) (l2 : List RW.Fc), wr.ownsRow B0 9 1 (.slice aI n cI) n (l1.map Value.string) ∧ l1.length = n ∧ wr.ownsRow B0 38 18 (.slice aF n cF) n (rowCells RW.fce l2) ∧ l2.length = n ∧ ChgS (fun k => B0 ≤ k) wY wr)) (fun i _ => n - (intOf i).toNat)
        case atStart => exact ⟨0, rfl, Nat.zero_le _, ids, kc, hY.out.2.2.1, hn2H.out, by have h := hY.out.2.2.2; unfold OwnF at h; rw [← hnH.out] at h; exact h, hnH.out.symm, ChgS.refl _ _⟩
        case round =>
          obtain ⟨j, rfl, hj, hT⟩ := hrel
          obtain ⟨wo2, hwo2⟩ : ∃ wo, wo = wr := ⟨_, rfl⟩
          subst hwo2
          obtain ⟨l1, l2, hT1, hT2, hT3, hT4, hT5⟩ := hT.out
          have hT1 := hide hT1
          have hT2 := hide hT2
          have hT3 := hide hT3
          have hT4 := hide hT4
          have hT5 := hide hT5
          by_cases hjn : j < n
          · obtain ⟨gI, cI', curI, eI, hgB, hgI, hgn, hgm, hgs, _⟩ := (hT1.out.2).resolve_left (fun h => by have := h.2; omega)
            obtain ⟨gF, cF', curF, eF, hfB, hgF, hfn, hfm, hfs, _⟩ := (hT3.out.2).resolve_left (fun h => by have := h.2; omega)
            cases eI
            cases eF
            have hne := hide (show gI ≠ gF from blocks_ne hgI hgF (by decide))
            obtain ⟨vv, cc⟩ : ∃ vv, wo2.cell? ⟨gI, j, none⟩ = some vv := ⟨_, (cellAt hgI j).trans (Array.getElem?_eq_getElem (by omega))⟩
            have cf : wo2.frozen? ⟨gI, j, none⟩ = false := by simp [World.frozen?, hgI]
            have hst := hide (set_strF (l := l1) (s := ⟨#[120]⟩) (by have h := hT1.out; rw [← hT2.out] at h; exact h) (i := j) (by rw [hT2.out]; exact hjn))
            have hFk := hide (own_keep (W' := wo2.setCell ⟨gI, j, none⟩ (.string ⟨#[120]⟩)) hT3.out fun x hx => by
              cases hx
              exact Below.heap_setCell _ _ _ _ (fun e => hne.out e.symm))
            have hth : (wo2.setCell ⟨gI, j, none⟩ (.string ⟨#[120]⟩)).there gF (j * 18) (RW.fcells RW.zeroFv.1 RW.zeroFv.2).size := own_there (l := l2) hFk.out (j * 18) 18 (by omega)
            have hset := hide (own_set fcl_len (by decide) (by have h := hFk.out; rw [← hT4.out] at h; exact h) j (by rw [hT4.out]; exact hjn) RW.zeroFv)
            have hfz := fact_infoF RW.zeroFv.1 RW.zeroFv.2
            have hfo := fcells_oneF RW.zeroFv.1 RW.zeroFv.2
            have hIk := hide (own_keep (W' := (wo2.setCell ⟨gI, j, none⟩ (.string ⟨#[120]⟩)).setCells gF (j * 18) (RW.fcells RW.zeroFv.1 RW.zeroFv.2).toList) hst.out fun x hx => by
              cases hx
              exact (setCells_grown _ _ _ _).block _ (by rw [World.setCell]; simp; exact (Array.getElem?_eq_some_iff.1 hgI).1) (fun e => hne.out (Option.some.inj e)))
            have hCk := hide (show ChgS (fun k => B0 ≤ k) wY ((wo2.setCell ⟨gI, j, none⟩ (.string ⟨#[120]⟩)).setCells gF (j * 18) (RW.fcells RW.zeroFv.1 RW.zeroFv.2).toList) from (hT5.out.set hgB _).grown (setCells_grown _ _ _ _) fun k e => by cases e; exact hfB)
            have hld3 := fun W => ix_fcF (b := gF) (o := 0) (c := cF) hjn W
            rw [Nat.zero_add] at hld3
            clear hgI hgF hgs hfs hgm hfm hgB hfB hgn hfn
            go_wp2_with (refine wpList_store_mid rfl 38 (.tmp 150) (.tmp 149) rfl gF (j * 18) (RW.fcells RW.zeroFv.1 RW.zeroFv.2) rfl rfl hth hfz hfo ?_; refine gen_wlF (fun W => W.ownsRow B0 9 1 (.slice (some ⟨gI, 0, none⟩) n cI) n ((l1.set j ⟨#[120]⟩).map Value.string) ∧ W.ownsRow B0 38 18 (.slice (some ⟨gF, 0, none⟩) n cF) n (rowCells RW.fce (l2.set j RW.zeroFv)) ∧ ChgS (fun k => B0 ≤ k) wY W) ⟨by have h := hIk.out; rw [hT2.out] at h; exact h, by have h := hset.out; rw [hT4.out] at h; exact h, hCk.out⟩ ?_; rintro wE ⟨gE1, gE2, gE3⟩; have hE := hide (And.intro gE1 (And.intro gE2 gE3)); clear gE1 gE2 gE3 hIk hset hCk hth cc cf hfz hfo hld3)
            go_roundw
            case rel => exact ⟨j + 1, by go_num, by omega, l1.set j ⟨#[120]⟩, l2.set j RW.zeroFv, hE.out.1, by rw [List.length_set]; exact hT2.out, hE.out.2.1, by rw [List.length_set]; exact hT4.out, hE.out.2.2⟩
            case measure => simp [intOf]; omega
          · obtain rfl : n = j := by omega
            have hZ := hide (show SetAt wo2 sb1 mb1 C ∧ Below B w wo2 from ⟨hY.out.1.chg hT5.out (by have := hB0s.out.1; omega) (by have := hB0s.out.2.1; omega), hY.out.2.1.trans (hT5.out.belowJ (B := B) (fun k h => Nat.le_trans hB0s.out.2.2 h) (by rw [hBH.out]; exact (hBH.out ▸ hY.out.2.1 : Below w.heap.size w wY).size))⟩)
            have hSm := hide (fun W s1 m1 s2 m2 (h1 : SetAt W s1 m1 C) (h2 : SetAt W s2 m2 C) (hb : Below B w W) => same_any RW.k0F ks hksH.out s1 m1 s2 m2 C C W h1 h2 (by omega) (by omega) hOC.out.keyle hOC.out.keyle (hKW.out W hb))
            clear hT hT1 hT2 hT3 hT4 hT5 hY
            go_wp2_with (first
              | (go_at_call 12; refine (hCut.out _ hZ.out.2).mono ?_; rintro e wC2 ⟨uC2, rfl, g1, g2⟩; have hC2 := hide (And.intro g1 (And.intro (bel_cat hZ.out.2 hBle.out g2) (hZ.out.1.next g2))); clear g1 g2)
              | (go_at_call 13; refine (hOf.out _ _ hC2.out.1.facts hC2.out.2.1).mono ?_; rintro e wO2 ⟨sb2, mb2, rfl, g1, g2, g3, g4⟩; have hO2 := hide (And.intro g1 (And.intro (bel_cat hC2.out.2.1 hBle.out g4) (hC2.out.2.2.next g4))); clear g1 g2 g3 g4)
              | (go_at_call 39; refine (hSm.out _ sb1 mb1 sb2 mb2 hO2.out.2.2 hO2.out.1 hO2.out.2.1).mono ?_; rintro e wZ2 ⟨⟨b, rfl, hb⟩, g⟩; have hZ2 := hide (bel_cat hO2.out.2.1 hBle.out g); have hbt := hb (by trivial); subst hbt; clear g hb))
            go_ret
            exact ⟨by simp, hZ2.out⟩
end Go.Proofs.YtnlphbfjeekooaaGreatDoor

/-
  Package royaltylaw06: FactsetPart: it returns true; only new memory is written.
-/
import Derived.Test.YtnlphbfjeekooaaGreatDoorMP
namespace Go.Proofs.YtnlphbfjeekooaaGreatDoor
open Go.RowKit RG
attribute [local go_sem ↓] ldRow_fact
set_option maxRecDepth 100000 in
set_option maxHeartbeats 8000000 in
theorem part_law (v : Value) (l : List RW.Fc) (hl : l.length ≤ 9223372036854775807) (hs : ∀ x ∈ l, x.2.size ≤ 9223372036854775807) (wi : Int) (hw1 : -9223372036854775808 ≤ wi) (hw2 : wi ≤ 9223372036854775807) (more : ByteArray) (ad : Bool)
    (ks : Array Value) (hks : RW.WsOk ks RW.k0F) (w : World) (hv : FactsV w v l) (hK : KLaid w ks) :
    Calls Tryz.prog 8 #[v, .int .i64 wi, .string more, .bool ad] w fun e w' => e = .returned (.bool true) ∧ Below w.heap.size w w' := by
  obtain ⟨wh, hwh, hwh2⟩ : ∃ n : Nat, RW.pickI wi 33554432 = (n : Int) ∧ n < 33554432 := by
    have := RW.pickI_bd wi 33554432 (by decide)
    exact ⟨(RW.pickI wi 33554432).toNat, by omega, by omega⟩
  have hPick := hide (pick_any wi 33554432 hw1 hw2 (by decide) (by decide))
  rw [hwh] at hPick
  obtain ⟨B, hB⟩ : ∃ B, B = w.heap.size := ⟨_, rfl⟩
  have hBH := hide hB
  have hBle := hide (show B ≤ w.heap.size by rw [hB]; exact Nat.le_refl _)
  have hKW := hide (fun W (hW : Below B w W) => RW.klaid hK (hB ▸ hW : Below w.heap.size w W))
  have hksH := hide hks
  have hSane := hide (sane_any ks hks w hK)
  rw [← hB] at hSane
  have hCut := hide (fun W (h : Below B w W) => cut_any v l hl hs W (hv.next (hB ▸ h)))
  obtain ⟨cl, hcl⟩ : ∃ c, c = RW.cutF l := ⟨_, rfl⟩
  have hcll : cl.length ≤ 25 := by rw [hcl]; exact RW.cutF_len l
  have hOf := hide (fun W u (h : FactsV W u cl) (hb : Below B w W) => of_any RW.k0F ks hksH.out u cl (by omega) W h (hKW.out W hb))
  obtain ⟨C, hC⟩ : ∃ C, C = RW.ofE RW.k0F [] cl := ⟨_, rfl⟩
  have hOC := hide (show RW.OfC RW.k0F cl C from hC ▸ RW.OfC.of RW.k0F _ cl rfl (by omega))
  rw [← hcl] at hCut
  rw [← hC] at hOf
  have hCl : C.length ≤ 25 := Nat.le_trans hOC.out.le hcll
  have hva := hide hv
  obtain ⟨va, vc, rfl, _, _⟩ := id hv
  obtain ⟨vn, hvn⟩ : ∃ n, n = l.length := ⟨_, rfl⟩
  rw [← hB]
  rw [← hvn] at hCut hva ⊢
  clear hK hks hB hv hs hl hcl hC hwh hw1 hw2 hvn
  go_enter Tryz.func8, Tryz.ntmps8
  go_upto_region 2 with (go_at_call 11; refine hSane.out.mono ?_; rintro e wS ⟨rfl, h⟩; have hBS := hide h; clear h)
  go_upto_region 3 with (first
    | (go_at_call 12; refine (hCut.out _ hBS).mono ?_; rintro e wC1 ⟨uC1, rfl, g1, g2⟩; have hC1 := hide (And.intro g1 (bel_cat hBS hBle.out g2)); clear g1 g2)
    | (go_at_call 13; refine (hOf.out _ _ hC1.out.1.facts hC1.out.2).mono ?_; rintro e wO1 ⟨sb1, mb1, rfl, g1, g2, g3, g4⟩; have hO1 := hide (And.intro g1 (And.intro g2 (And.intro g3 (bel_cat hC1.out.2 hBle.out g4)))); clear g1 g2 g3 g4))
  have hI := hide (sids_any sb1 mb1 C (by omega) wO1 hO1.out.1)
  go_upto_region 4 with (go_at_call 14; refine hI.out.mono ?_; rintro e w3 ⟨uI, rfl, g1, g2⟩; have h3 := hide (And.intro (strs_own g1) (And.intro (hO1.out.1.next g2) (bel_cat hO1.out.2.2.2 hBle.out g2))); clear g1 g2)
  obtain ⟨ids, hids⟩ : ∃ i, i = C.map (·.1) := ⟨_, rfl⟩
  have hidsH := hide hids
  rw [← hids] at h3
  obtain ⟨aI, cI, rfl, _, _⟩ := id h3.out.1
  obtain ⟨n, hn⟩ : ∃ n, n = ids.length := ⟨_, rfl⟩
  have hn25 : n ≤ 25 := by rw [hn, hids, List.length_map]; exact hCl
  have hnH := hide hn
  rw [← hn] at h3 ⊢
  obtain ⟨N, hN⟩ : ∃ N, N = w3.heap.size := ⟨_, rfl⟩
  have hNH := hide hN
  clear hids hn hN hI
  go_wp2_with (go_at_call 18; refine (hPick.out _).mono ?_; rintro e w3' ⟨rfl, rfl⟩)
  go_loopw [12, 13] (fun u i wr => ∃ (j : Nat) (s : List ByteArray), i = .int .i64 j ∧ j ≤ n ∧ Hid (StrsOwn wr N u s ∧ s.Sublist (ids.take j) ∧ Below N w3 wr)) (fun _ i _ => n - (intOf i).toNat)
  case atStart => exact ⟨0, [], rfl, Nat.zero_le _, strs_nil _ _, List.nil_sublist _, by rw [hNH.out]; exact Below.refl _ _⟩
  case round =>
    obtain ⟨j, s, rfl, hj, hQ⟩ := hrel
    obtain ⟨wo, hwo⟩ : ∃ wo, wo = wr := ⟨_, rfl⟩
    subst hwo
    by_cases hjn : j < n
    · obtain ⟨r, hr⟩ : ∃ r, ids[j]? = some r := ⟨_, List.getElem?_eq_getElem (by rw [← hnH.out]; exact hjn)⟩
      obtain ⟨g0, o0, c0, e', hcell⟩ := strR_cell (W' := wo) (by have h := h3.out.1; rw [hnH.out] at h; exact h) hr
      cases e'
      have hld := hcell wo (by rw [← hNH.out]; exact hQ.out.2.2)
      have hrH := hide hr
      have hNle := hide (show N ≤ wo.heap.size by rw [hNH.out]; exact (hNH.out ▸ hQ.out.2.2 : Below w3.heap.size w3 wo).size)
      have hsl := hide (show s.length ≤ 25 from Nat.le_trans hQ.out.2.1.length_le (by rw [List.length_take]; omega))
      clear hcell hr
      by_cases hbit : ((wh : Int) / 2 ^ j).tmod 2 = 1
      · obtain ⟨v', W', hrun, hO, hCh, _⟩ := run_app_str r hQ.out.1 hNle.out (by have := hsl.out; omega)
        have hO2 := hide (And.intro hO (And.intro (RW.sub_snoc hQ.out.2.1 hrH.out) (hQ.out.2.2.trans (chg_bel hQ.out.1 hNle.out hCh))))
        clear hO hCh
        go_wp2_with (at_builtin; refine wpList_app_run rfl (.tmp 44) (.tmp 49) rfl rfl rfl hrun ?_)
        go_roundw
        case rel => exact ⟨j + 1, _, by go_num, by omega, hO2.out⟩
        case measure => simp [intOf]; omega
      · go_wp2
        go_roundw
        case rel => exact ⟨j + 1, s, by go_num, by omega, hQ.out.1, RW.sub_step hQ.out.2.1 hrH.out, hQ.out.2.2⟩
        case measure => simp [intOf]; omega
    · obtain rfl : n = j := by omega
      have hS0 := hide (show s.Sublist ids from by have h := hQ.out.2.1; rwa [hnH.out, List.take_length] at h)
      have hAs := hide (show RW.AscB s from List.Pairwise.sublist hS0.out (by rw [hidsH.out]; exact hOC.out.asc))
      have hIn := hide (show ∀ x ∈ s, (KM.get x C).isSome = true from fun x hx => RW.get_isSome.2 (by rw [← hidsH.out]; exact hS0.out.subset hx))
      have hQ1 := hide (show StrR wo _ s from strs_own hQ.out.1)
      have hb3 := hide (show Below w3.heap.size w3 wo from hNH.out ▸ hQ.out.2.2)
      have hSw := hide (show SetAt wo sb1 mb1 C ∧ Below B w wo from ⟨h3.out.2.1.next hb3.out, bel_cat h3.out.2.2 hBle.out hb3.out⟩)
      obtain ⟨a12, c12, rfl, _, _⟩ := id hQ1.out
      obtain ⟨m, hm⟩ : ∃ m, m = s.length := ⟨_, rfl⟩
      have hm25 : m ≤ 25 := by rw [hm]; exact Nat.le_trans hS0.out.length_le (by rw [← hnH.out]; exact hn25)
      have hmH := hide hm
      rw [← hm] at hQ1 ⊢
      clear hQ h3 hb3 hNH hm hS0
      obtain ⟨N2, hN2⟩ : ∃ N, N = wo.heap.size := ⟨_, rfl⟩
      have hA0 := alloc_bel (Below.refl wo.heap.size wo) (Nat.le_refl _) (.cells #[] 9)
      obtain ⟨u1, W1, hrun1, hO1a, hC1a⟩ := app_slF (strs_new0F (W := wo) (Nat.le_refl _)) hA0.size ((show StrR wo (.slice a12 s.length c12) s by rw [← hmH.out]; exact hQ1.out).next hA0) (by rw [← hmH.out]; simp; omega)
      have hb1a := hA0.trans (chg_bel (strs_new0F (W := wo) (Nat.le_refl _)) hA0.size hC1a)
      rw [← hmH.out] at hrun1
      rw [← hN2] at hO1a hb1a
      have hN2H := hide hN2
      clear hA0 hC1a hN2
      cases ad with
      | false =>
        go_upto_region 12 with (at_builtin; refine wpList_app_run rfl (.tmp 51) (.tmp 52) rfl rfl rfl hrun1 ?_)
        go_wp2
        go_loopw [14, 15] (fun u i wr => ∃ (k : Nat) (a : List ByteArray), i = .int .i64 ((k : Int) - 1) ∧ k ≤ m ∧ Hid (StrsOwn wr N2 u a ∧ RW.Ask s false more a ∧ a.length + k ≤ 60 ∧ Below N2 wo wr)) (fun _ i _ => (intOf i + 1).toNat)
        case atStart => exact ⟨m, _, rfl, Nat.le_refl _, hO1a, RW.Ask.start s more, by rw [List.nil_append, ← hmH.out]; omega, hb1a⟩
        case round =>
          obtain ⟨k, a, hi, hk, hR⟩ := hrel
          obtain ⟨wp, hwp⟩ : ∃ wp, wp = wr := ⟨_, rfl⟩
          subst hwp
          have hNle := hide (show N2 ≤ wp.heap.size by rw [hN2H.out]; exact (hN2H.out ▸ hR.out.2.2.2 : Below wo.heap.size wo wp).size)
          rcases k with _ | q
          · have hi2 := hi.trans (show Value.int .i64 (((0 : Nat) : Int) - 1) = .int .i64 (-1) by simp)
            subst hi2
            clear hi
            have hR1 := hide hR.out.2.1
            have hRv := hide (strs_own hR.out.1)
            have hbw := hide (show Below wo.heap.size wo wp from hN2H.out ▸ hR.out.2.2.2)
            have hSp := hide (show SetAt wp sb1 mb1 C ∧ Below B w wp ∧ StrR wp (.slice a12 m c12) s from ⟨hSw.out.1.next hbw.out, bel_cat hSw.out.2 hBle.out hbw.out, hQ1.out.next hbw.out⟩)
            have hal : a.length ≤ 60 := by have := hR.out.2.2.1; omega
            clear hR hbw hSw hQ1 hNle hN2H
            have hall := hide (show ∀ x ∈ a, (KM.get x C).isSome = true from fun x hx => (hR1.out.sub x hx).elim (hIn.out x) fun e => by cases e.1)
            have hPt := hide (show Calls Tryz.prog 27 #[.pointer (some ⟨sb1, 0, none⟩), _] wp fun e w' => ∃ pb qb, e = .returned (.tuple #[.pointer (some ⟨pb, 0, none⟩), .bool true]) ∧ SetAt w' pb qb (RW.partE C a) ∧ wp.heap.size ≤ pb ∧ wp.heap.size ≤ qb ∧ Below wp.heap.size wp w' from (spart_any sb1 mb1 C _ a (by omega) wp hSp.out.1 hRv.out).mono fun e w' h => by
              rcases h with ⟨h0, ⟨_, k, h1, h2⟩ | ⟨pb, qb, h1, _, h2, h3, h4⟩⟩
              · rw [hall.out k h1] at h2; cases h2
              · exact ⟨pb, qb, h1, h2, h3, h4, h0⟩)
            obtain ⟨P, hP⟩ : ∃ P, P = RW.partE C a := ⟨_, rfl⟩
            rw [← hP] at hPt
            have hPH := hide hP
            clear hP
            go_upto_region 19 with (go_at_call 27; refine hPt.out.mono ?_; rintro e w6 ⟨pb, qb, rfl, g1, g2, g3, h⟩; have h6 := hide (And.intro (hSp.out.1.next h) (And.intro (bel_cat hSp.out.2.1 hBle.out h) (And.intro (hRv.out.next h) (And.intro (hSp.out.2.2.next h) (And.intro g1 (And.intro (show mb1 ≠ qb from fun e => absurd hSp.out.1.lt.2 (by rw [e]; omega)) (Nat.le_trans (show w.heap.size ≤ wp.heap.size from (hBH.out ▸ hSp.out.2.1 : Below w.heap.size w wp).size) g3))))))); clear g1 g2 g3 h)
            have hMs := hide (smiss_any (some ⟨sb1, 0, none⟩) (fun x => (KM.get x C).isSome) _ a (by omega) w6 (hasP_set h6.out.1) h6.out.2.2.1)
            rw [RW.missB_nil (fun x hx => hall.out x hx)] at hMs
            clear hPt hSp
            go_upto_region 20 with (go_at_call 32; refine hMs.out.mono ?_; rintro e w7 ⟨uM, rfl, g1, g2⟩; have h7 := hide (show (∃ a c, uM = .slice a 0 c) ∧ SetAt w7 sb1 mb1 C ∧ Below B w w7 ∧ StrR w7 (.slice a12 m c12) s ∧ SetAt w7 pb qb P from ⟨own_shape g1, h6.out.1.next g2, bel_cat h6.out.2.1 hBle.out g2, h6.out.2.2.2.1.next g2, h6.out.2.2.2.2.1.next g2⟩); clear g1 g2)
            obtain ⟨aM, cM, rfl⟩ := h7.out.1
            have hPid := hide (show P.map (·.1) = s by rw [hPH.out]; exact RW.part_ids hAs.out fun x => ⟨fun hx => (hR1.out.sub x hx).elim (fun h => h) fun e => (by cases e.1), hR1.out.all x⟩)
            have hPl : P.length ≤ 25 := by have := congrArg List.length hPid.out; rw [List.length_map, ← hmH.out] at this; omega
            have hIp := hide (sids_any pb qb P (by omega) w7 h7.out.2.2.2.2)
            rw [hPid.out] at hIp
            have hSS := hide (fun W u u2 (h1 : StrR W u s) (h2 : StrR W u2 s) => ss_any u u2 s s W h1 h2 (by rw [← hmH.out]; omega) (by rw [← hmH.out]; omega))
            rw [decide_eq_true (rfl : s = s)] at hSS
            clear hMs
            go_upto_region 27 with (first
              | (go_at_call 14; refine hIp.out.mono ?_; rintro e w8 ⟨u8, rfl, g1, g2⟩; have h8 := hide (And.intro (strs_own g1) (And.intro (h7.out.2.1.next g2) (And.intro (bel_cat h7.out.2.2.1 hBle.out g2) (And.intro (h7.out.2.2.2.1.next g2) (h7.out.2.2.2.2.next g2))))); clear g1 g2)
              | (go_at_call 15; refine (hSS.out _ _ _ h8.out.1 h8.out.2.2.2.1).mono ?_; rintro e w9 ⟨rfl, g2⟩; have h9 := hide (And.intro (h8.out.2.1.next g2) (And.intro (bel_cat h8.out.2.2.1 hBle.out g2) (And.intro (h8.out.2.2.2.1.next g2) (h8.out.2.2.2.2.next g2)))); clear g2))
            clear hIp hSS h7 h8
            obtain ⟨N3, hN3⟩ : ∃ N, N = w9.heap.size := ⟨_, rfl⟩
            have hN3H := hide hN3
            have hne := hide h6.out.2.2.2.2.2
            clear hN3 h6 hRv
            go_wp2
            go_loopw [19, 20, 21, 22, 23] (fun i _ _ _ _ wr => ∃ (j : Nat), i = .int .i64 j ∧ j ≤ m ∧ Hid (Below N3 w9 wr)) (fun i _ _ _ _ _ => m - (intOf i).toNat)
            case atStart => exact ⟨0, rfl, Nat.zero_le _, by rw [hN3H.out]; exact Below.refl _ _⟩
            case round =>
              obtain ⟨j, rfl, hj, hT⟩ := hrel
              obtain ⟨wq, hwq⟩ : ∃ wq, wq = wr := ⟨_, rfl⟩
              subst hwq
              have hT9 := hide (show Below w9.heap.size w9 wq from hN3H.out ▸ hT.out)
              have h10 := hide (show SetAt wq sb1 mb1 C ∧ Below B w wq ∧ SetAt wq pb qb P from ⟨h9.out.1.next hT9.out, bel_cat h9.out.2.1 hBle.out hT9.out, h9.out.2.2.2.next hT9.out⟩)
              by_cases hjm : j < m
              · obtain ⟨r, hr⟩ : ∃ r, s[j]? = some r := ⟨_, List.getElem?_eq_getElem (by rw [← hmH.out]; exact hjm)⟩
                obtain ⟨g0, o0, c0, e', hcell⟩ := strR_cell (W' := wq) (by have h := h9.out.2.2.1; rw [hmH.out] at h; exact h) hr
                cases e'
                have hcellH := hide hcell
                have hld := hcell wq hT9.out
                have hrm := List.mem_of_getElem? hr
                have hgP := sget_any pb qb P r wq h10.out.2.2
                have hgC := fun W (h : SetAt W sb1 mb1 C) => sget_any sb1 mb1 C r W h
                have hgs := hIn.out r hrm
                obtain ⟨y, hy⟩ := h10.out.1.fvs.get r
                rw [show KM.get r P = KM.get r C by rw [hPH.out]; exact RW.part_get (hR1.out.all r hrm) hgs, hgs, hy] at hgP
                simp only [hgs, hy] at hgC
                obtain ⟨cs, hcs⟩ : ∃ cs, cs = RW.fcells y.1 y.2 := ⟨_, rfl⟩
                have hNE : ∀ W, (binOp .neq 38 (.agg cs) (.agg cs)).run Tryz.prog W = .ok (.bool false) W := fun W => by
                  have h := neq_factF y.1 y.1 y.2 y.2 W
                  rw [RW.dec_true ⟨fun _ _ => rfl, rfl⟩, ← hcs] at h
                  exact h
                rw [show RW.fv y = .agg cs by rw [hcs]; rfl] at hgP hgC
                have hfi := fact_infoF y.1 y.2
                have hf1 := fcells_oneF y.1 y.2
                have hcz : cs.size = 18 := by rw [hcs]; rfl
                rw [← hcs] at hfi hf1
                have hgPH := hide hgP
                have hgCH := hide hgC
                clear hgP hgC hcs hy hgs hr hcell hrm
                have tok1 : True := trivial
                go_upto_region 32 with (first
                  | (go_at_call 35; refine hgPH.out.mono ?_; rintro e wa ⟨rfl, g⟩; have ha := hide (And.intro (h10.out.1.next g) (hT9.out.trans (g.mono hT9.out.size))); clear g)
                  | (refine wpList_store_newF rfl 38 (.tmp 20) (.tmp 148) rfl cs rfl rfl 38 _ hfi (by rw [hcz]; rfl) hf1 ?_))
                obtain ⟨f1, hf1b⟩ : ∃ b, b = wa.heap.size := ⟨_, rfl⟩
                have hA1 := alloc_bel (Below.refl wa.heap.size wa) (Nat.le_refl _) (.cells cs 38)
                refine gen_w (fun W => W.heap[f1]? = some (.cells cs 38 (0, 0)) ∧ SetAt W sb1 mb1 C ∧ Below w9.heap.size w9 W) ⟨by rw [hf1b]; exact alloc_at1 _ _, ha.out.1.next hA1, ha.out.2.trans (hA1.mono ha.out.2.size)⟩ ?_
                rw [← hf1b]
                clear hA1 hf1b ha hld
                rintro wb ⟨gb1, gb2, gb3⟩
                have hb := hide (And.intro gb1 (And.intro gb2 gb3))
                have hld := hcellH.out wb gb3
                have hgC2 := hide (hgCH.out wb gb2)
                clear gb1 gb2 gb3
                go_upto_region 33 with (first
                  | (go_at_call 35; refine hgC2.out.mono ?_; rintro e wc ⟨rfl, g⟩; have hc := hide (And.intro ((g.block _ (Array.getElem?_eq_some_iff.1 hb.out.1).1).trans hb.out.1) (hb.out.2.2.trans (g.mono hb.out.2.2.size))); clear g)
                  | (refine wpList_store_newF rfl 38 (.tmp 22) (.tmp 157) rfl cs rfl rfl 38 _ hfi (by rw [hcz]; rfl) hf1 ?_))
                obtain ⟨f2, hf2b⟩ : ∃ b, b = wc.heap.size := ⟨_, rfl⟩
                have hA2 := alloc_bel (Below.refl wc.heap.size wc) (Nat.le_refl _) (.cells cs 38)
                refine gen_w (fun W => W.heap[f1]? = some (.cells cs 38 (0, 0)) ∧ W.heap[f2]? = some (.cells cs 38 (0, 0)) ∧ Below w9.heap.size w9 W) ⟨(hA2.block _ (Array.getElem?_eq_some_iff.1 hc.out.1).1).trans hc.out.1, by rw [hf2b]; exact alloc_at1 _ _, hc.out.2.trans (hA2.mono hc.out.2.size)⟩ ?_
                rw [← hf2b]
                clear hA2 hf2b hc hb hgC2 hld
                rintro wd ⟨gd1, gd2, gd3⟩
                have hl1 := fact_ldF gd1 hcz
                have hl2 := fact_ldF gd2 hcz
                have hd := hide gd3
                clear gd1 gd2 gd3
                go_wp2
                go_roundw
                case rel => exact ⟨j + 1, by go_num, by omega, by rw [hN3H.out]; exact hd.out⟩
                case measure => simp [intOf]; omega
              · obtain rfl : m = j := by omega
                have hUn := hide (sunion_any sb1 mb1 pb qb C P wq h10.out.1 h10.out.2.2 hne.out.1 (by omega) (by omega))
                have hur : RW.uniR P C = (0, C) := by unfold RW.uniR; rw [hPH.out, RW.part_uni hOC.out.asc hall.out, if_neg (by omega)]
                rw [hur] at hUn
                have hmbB := hide (show B ≤ mb1 by rw [hBH.out]; exact Nat.le_trans (hBH.out ▸ hC1.out.2 : Below w.heap.size w wC1).size hO1.out.2.2.1)
                clear hur hT hT9 h9
                go_upto_region 36 with (go_at_call 22; refine hUn.out.mono ?_; rintro e w11 ⟨rfl, g1, g2⟩; have h11 := hide (And.intro g1 (h10.out.2.1.trans (g2.belowJ (B := B) (fun k e => by rw [e]; exact hmbB.out) (by rw [hBH.out]; exact (hBH.out ▸ h10.out.2.1 : Below w.heap.size w _).size)))); clear g1 g2)
                have hSm := hide (fun W s1 m1 s2 m2 (h1 : SetAt W s1 m1 C) (h2 : SetAt W s2 m2 C) (hb : Below B w W) => same_any RW.k0F ks hksH.out s1 m1 s2 m2 C C W h1 h2 (by omega) (by omega) hOC.out.keyle hOC.out.keyle (hKW.out W hb))
                clear hUn h10
                go_wp2_with (first
                    | (go_at_call 12; refine (hCut.out _ h11.out.2).mono ?_; rintro e wC2 ⟨uC2, rfl, g1, g2⟩; have hC2 := hide (And.intro g1 (And.intro (bel_cat h11.out.2 hBle.out g2) (h11.out.1.next g2))); clear g1 g2)
                    | (go_at_call 13; refine (hOf.out _ _ hC2.out.1.facts hC2.out.2.1).mono ?_; rintro e wO2 ⟨sb2, mb2, rfl, g1, g2, g3, g4⟩; have hO2 := hide (And.intro g1 (And.intro (bel_cat hC2.out.2.1 hBle.out g4) (hC2.out.2.2.next g4))); clear g1 g2 g3 g4)
                    | (go_at_call 39; refine (hSm.out _ sb1 mb1 sb2 mb2 hO2.out.2.2 hO2.out.1 hO2.out.2.1).mono ?_; rintro e wZ2 ⟨⟨b, rfl, hb⟩, g⟩; have hZ2 := hide (bel_cat hO2.out.2.1 hBle.out g); have hbt := hb (by trivial); subst hbt; clear g hb))
                go_ret
                exact ⟨by simp, hZ2.out⟩
          · have hi2 := hi.trans (show Value.int .i64 (((q + 1 : Nat) : Int) - 1) = .int .i64 (q : Int) by congr 1; omega)
            subst hi2
            obtain ⟨r, hr⟩ : ∃ r, s[q]? = some r := ⟨_, List.getElem?_eq_getElem (by rw [← hmH.out]; omega)⟩
            obtain ⟨g0, o0, c0, e', hcell⟩ := strR_cell (W' := wp) (by have h := hQ1.out; rw [hmH.out] at h; exact h) hr
            cases e'
            have hld := hcell wp (by rw [← hN2H.out]; exact hR.out.2.2.2)
            have hrm := hide (List.mem_of_getElem? hr)
            have hqm : q < m := by omega
            obtain ⟨v', W', hrun, hO, hCh, _⟩ := run_app_str r hR.out.1 hNle.out (by have := hR.out.2.2.1; omega)
            have hO2 := hide (show StrsOwn W' N2 v' (a ++ [r]) ∧ RW.Ask s false more (a ++ [r]) ∧ (a ++ [r]).length + q ≤ 60 ∧ Below N2 wo W' from ⟨hO, hR.out.2.1.snoc hrm.out, by have := hR.out.2.2.1; rw [List.length_append, List.length_singleton]; omega, hR.out.2.2.2.trans (chg_bel hR.out.1 hNle.out hCh)⟩)
            clear hO hCh hcell hr hi
            go_wp2_with (at_builtin; refine wpList_app_run rfl (.tmp 66) (.tmp 71) rfl rfl rfl hrun ?_)
            go_roundw
            case rel => exact ⟨q, _, by go_num, by omega, hO2.out⟩
            case measure => simp [intOf]
      | true =>
        have hW1 := hide (show N2 ≤ W1.heap.size by rw [hN2H.out]; exact (hN2H.out ▸ hb1a : Below wo.heap.size wo W1).size)
        obtain ⟨u2, W2, hrun2, hO2a, hC2a, _⟩ := run_app_str more hO1a hW1.out (by rw [List.nil_append, ← hmH.out]; omega)
        have hb2a := hb1a.trans (chg_bel hO1a hW1.out hC2a)
        go_wp2_with (first
          | (at_builtin; refine wpList_app_run rfl (.tmp 51) (.tmp 52) rfl rfl rfl hrun1 ?_)
          | (at_builtin; refine wpList_app_run rfl (.tmp 55) (.tmp 57) rfl rfl rfl hrun2 ?_))
        go_loopw [14, 15] (fun u i wr => ∃ (k : Nat) (a : List ByteArray), i = .int .i64 ((k : Int) - 1) ∧ k ≤ m ∧ Hid (StrsOwn wr N2 u a ∧ RW.Ask s true more a ∧ a.length + k ≤ 60 ∧ Below N2 wo wr)) (fun _ i _ => (intOf i + 1).toNat)
        case atStart => exact ⟨m, _, rfl, Nat.le_refl _, hO2a, RW.Ask.start2 s more, by rw [List.length_append, List.nil_append, ← hmH.out, List.length_singleton]; omega, hb2a⟩
        case round =>
          obtain ⟨k, a, hi, hk, hR⟩ := hrel
          obtain ⟨wp, hwp⟩ : ∃ wp, wp = wr := ⟨_, rfl⟩
          subst hwp
          have hNle := hide (show N2 ≤ wp.heap.size by rw [hN2H.out]; exact (hN2H.out ▸ hR.out.2.2.2 : Below wo.heap.size wo wp).size)
          rcases k with _ | q
          · have hi2 := hi.trans (show Value.int .i64 (((0 : Nat) : Int) - 1) = .int .i64 (-1) by simp)
            subst hi2
            clear hi
            have hR1 := hide hR.out.2.1
            have hRv := hide (strs_own hR.out.1)
            have hbw := hide (show Below wo.heap.size wo wp from hN2H.out ▸ hR.out.2.2.2)
            have hSp := hide (show SetAt wp sb1 mb1 C ∧ Below B w wp ∧ StrR wp (.slice a12 m c12) s from ⟨hSw.out.1.next hbw.out, bel_cat hSw.out.2 hBle.out hbw.out, hQ1.out.next hbw.out⟩)
            have hal : a.length ≤ 60 := by have := hR.out.2.2.1; omega
            clear hR hbw hSw hQ1 hNle hN2H
            cases hmo : (KM.get more C).isSome with
            | false =>
              have hPt := hide (show Calls Tryz.prog 27 #[.pointer (some ⟨sb1, 0, none⟩), _] wp fun e w' => e = .returned (.tuple #[.pointer none, .bool false]) ∧ Below wp.heap.size wp w' from (spart_any sb1 mb1 C _ a (by omega) wp hSp.out.1 hRv.out).mono fun e w' h => by
                rcases h with ⟨h0, ⟨h1, _⟩ | ⟨pb, qb, _, h2, _⟩⟩
                · exact ⟨h1, h0⟩
                · rw [h2 more (hR1.out.more rfl)] at hmo; cases hmo)
              go_upto_region 19 with (go_at_call 27; refine hPt.out.mono ?_; rintro e w6 ⟨rfl, h⟩; have h6 := hide (And.intro (hSp.out.1.next h) (And.intro (bel_cat hSp.out.2.1 hBle.out h) (hRv.out.next h))); clear h)
              have hMs := hide (smiss_any (some ⟨sb1, 0, none⟩) (fun x => (KM.get x C).isSome) _ a (by omega) w6 (hasP_set h6.out.1) h6.out.2.2)
              rw [RW.missB_one (hR1.out.more rfl) hmo (fun x hx => (hR1.out.sub x hx).elim (fun h => .inr (hIn.out x h)) fun e => .inl e.2)] at hMs
              have hHs := hide (fun W (h : SetAt W sb1 mb1 C) => shas_any sb1 mb1 C more W h)
              rw [hmo] at hHs
              clear hPt hSp hRv hR1 hIn hmo
              go_upto_region 20 with (go_at_call 32; refine hMs.out.mono ?_; rintro e w7 ⟨uM, rfl, g1, g2⟩; have h7 := hide (And.intro (strs_own g1) (And.intro (h6.out.1.next g2) (bel_cat h6.out.2.1 hBle.out g2))); clear g1 g2)
              obtain ⟨gM, oM, cM, e', hcM⟩ := strR_cell (W' := w7) (j := 0) (r := more) h7.out.1 rfl
              cases e'
              rw [show ([more] : List ByteArray).length = 1 from rfl]
              rw [Nat.add_zero] at hcM
              have hcMH := hide hcM
              clear hcM hMs h6
              go_upto_region 22 with (go_at_call 37; refine (hHs.out _ h7.out.2.1).mono ?_; rintro e w8 ⟨rfl, h⟩; have h8 := hide (And.intro (hcMH.out _ h) (bel_cat h7.out.2.2 hBle.out h)); clear h)
              have hcc := h8.out.1
              go_wp2
              go_ret
              exact ⟨by simp, h8.out.2⟩
            | true =>
              have hall := hide (show ∀ x ∈ a, (KM.get x C).isSome = true from fun x hx => (hR1.out.sub x hx).elim (hIn.out x) fun e => by rw [e.2]; exact hmo)
              have hPt := hide (show Calls Tryz.prog 27 #[.pointer (some ⟨sb1, 0, none⟩), _] wp fun e w' => ∃ pb qb, e = .returned (.tuple #[.pointer (some ⟨pb, 0, none⟩), .bool true]) ∧ SetAt w' pb qb (RW.partE C a) ∧ wp.heap.size ≤ pb ∧ wp.heap.size ≤ qb ∧ Below wp.heap.size wp w' from (spart_any sb1 mb1 C _ a (by omega) wp hSp.out.1 hRv.out).mono fun e w' h => by
                rcases h with ⟨h0, ⟨_, k, h1, h2⟩ | ⟨pb, qb, h1, _, h2, h3, h4⟩⟩
                · rw [hall.out k h1] at h2; cases h2
                · exact ⟨pb, qb, h1, h2, h3, h4, h0⟩)
              obtain ⟨P, hP⟩ : ∃ P, P = RW.partE C a := ⟨_, rfl⟩
              rw [← hP] at hPt
              have hPH := hide hP
              clear hP
              go_upto_region 19 with (go_at_call 27; refine hPt.out.mono ?_; rintro e w6 ⟨pb, qb, rfl, g1, g2, g3, h⟩; have h6 := hide (And.intro (hSp.out.1.next h) (And.intro (bel_cat hSp.out.2.1 hBle.out h) (And.intro (hRv.out.next h) (And.intro (hSp.out.2.2.next h) (And.intro g1 (And.intro (show mb1 ≠ qb from fun e => absurd hSp.out.1.lt.2 (by rw [e]; omega)) (Nat.le_trans (show w.heap.size ≤ wp.heap.size from (hBH.out ▸ hSp.out.2.1 : Below w.heap.size w wp).size) g3))))))); clear g1 g2 g3 h)
              have hMs := hide (smiss_any (some ⟨sb1, 0, none⟩) (fun x => (KM.get x C).isSome) _ a (by omega) w6 (hasP_set h6.out.1) h6.out.2.2.1)
              rw [RW.missB_nil (fun x hx => hall.out x hx)] at hMs
              clear hPt hSp
              go_upto_region 20 with (go_at_call 32; refine hMs.out.mono ?_; rintro e w7 ⟨uM, rfl, g1, g2⟩; have h7 := hide (show (∃ a c, uM = .slice a 0 c) ∧ SetAt w7 sb1 mb1 C ∧ Below B w w7 ∧ StrR w7 (.slice a12 m c12) s ∧ SetAt w7 pb qb P from ⟨own_shape g1, h6.out.1.next g2, bel_cat h6.out.2.1 hBle.out g2, h6.out.2.2.2.1.next g2, h6.out.2.2.2.2.1.next g2⟩); clear g1 g2)
              obtain ⟨aM, cM, rfl⟩ := h7.out.1
              have hHs := hide (fun W (h : SetAt W sb1 mb1 C) => shas_any sb1 mb1 C more W h)
              rw [hmo] at hHs
              have hPl := hide (show m ≤ P.length by rw [hPH.out, hmH.out]; exact RW.part_len (RW.AscB.nodup hAs.out) hR1.out.all)
              have hLn := hide (fun W (h : SetAt W pb qb P) => slen_any pb qb P W h)
              obtain ⟨pn, hpn⟩ : ∃ n, n = P.length := ⟨_, rfl⟩
              rw [← hpn] at hPl hLn
              have hge : (m : Int) ≤ (pn : Int) := by have := hPl.out; omega
              clear hMs hmo hpn hPl
              go_wp2_with (first
                | (go_at_call 37; refine (hHs.out _ h7.out.2.1).mono ?_; rintro e w8 ⟨rfl, h⟩; have h8 := hide (And.intro (h7.out.2.2.2.2.next h) (bel_cat h7.out.2.2.1 hBle.out h)); clear h)
                | (go_at_call 23; refine (hLn.out _ h8.out.1).mono ?_; rintro e w9 ⟨rfl, rfl⟩))
              go_ret
              exact ⟨by simp, h8.out.2⟩
          · have hi2 := hi.trans (show Value.int .i64 (((q + 1 : Nat) : Int) - 1) = .int .i64 (q : Int) by congr 1; omega)
            subst hi2
            obtain ⟨r, hr⟩ : ∃ r, s[q]? = some r := ⟨_, List.getElem?_eq_getElem (by rw [← hmH.out]; omega)⟩
            obtain ⟨g0, o0, c0, e', hcell⟩ := strR_cell (W' := wp) (by have h := hQ1.out; rw [hmH.out] at h; exact h) hr
            cases e'
            have hld := hcell wp (by rw [← hN2H.out]; exact hR.out.2.2.2)
            have hrm := hide (List.mem_of_getElem? hr)
            have hqm : q < m := by omega
            obtain ⟨v', W', hrun, hO, hCh, _⟩ := run_app_str r hR.out.1 hNle.out (by have := hR.out.2.2.1; omega)
            have hO2 := hide (show StrsOwn W' N2 v' (a ++ [r]) ∧ RW.Ask s true more (a ++ [r]) ∧ (a ++ [r]).length + q ≤ 60 ∧ Below N2 wo W' from ⟨hO, hR.out.2.1.snoc hrm.out, by have := hR.out.2.2.1; rw [List.length_append, List.length_singleton]; omega, hR.out.2.2.2.trans (chg_bel hR.out.1 hNle.out hCh)⟩)
            clear hO hCh hcell hr hi
            go_wp2_with (at_builtin; refine wpList_app_run rfl (.tmp 66) (.tmp 71) rfl rfl rfl hrun ?_)
            go_roundw
            case rel => exact ⟨q, _, by go_num, by omega, hO2.out⟩
            case measure => simp [intOf]
end Go.Proofs.YtnlphbfjeekooaaGreatDoor

/-
  Package royaltylaw06: FactsetOrder: it returns true; only new memory is written.
-/
import Derived.Test.YtnlphbfjeekooaaGreatDoorFl6
namespace Go.Proofs.YtnlphbfjeekooaaGreatDoor
open Go.RowKit RG
theorem int_ldF {W : World} {g i : Nat} {n : Int} (h : W.cell? ⟨g, i, none⟩ = some (.int .i64 n)) : (ldRow 3 (.pointer (some ⟨g, i, none⟩))).run Tryz.prog W = .ok (.int .i64 n) W := by
  unfold ldRow
  go_simp
abbrev IntsR (W : World) (v : Value) (l : List Int) : Prop := RowV 1 (fun z => [Value.int .i64 z]) W v l
theorem intsR_cell {W : World} {v : Value} {l : List Int} {j : Nat} {r : Int} (h : IntsR W v l) (hr : l[j]? = some r) : ∃ g o c, v = .slice (some ⟨g, o, none⟩) l.length c ∧ ∀ W', Below W.heap.size W W' → W'.cell? ⟨g, o + j, none⟩ = some (.int .i64 r) := by
  obtain ⟨a, c, rfl, _, hc⟩ := h
  rcases hc with rfl | ⟨g, o, rfl, hb, hc⟩
  · simp at hr
  · refine ⟨g, o, c, rfl, fun W' hB => ?_⟩
    have e := hc j r hr 0 _ rfl
    rw [Nat.mul_one, Nat.add_zero] at e
    exact (World.cell?_of_block (a := ⟨g, o + j, none⟩) (hB.block _ hb)).trans e
attribute [local go_sem ↓] ldRow_fact
set_option maxRecDepth 100000 in
set_option maxHeartbeats 8000000 in
theorem order_law (v v2 : Value) (l : List RW.Fc) (ord : List Int) (hl : l.length ≤ 9223372036854775807) (hs : ∀ x ∈ l, x.2.size ≤ 9223372036854775807) (hob : ∀ x ∈ ord, -9223372036854775808 ≤ x ∧ x ≤ 9223372036854775807)
    (ks : Array Value) (hks : RW.WsOk ks RW.k0F) (w : World) (hv : FactsV w v l) (hv2 : IntsR w v2 ord) (hK : KLaid w ks) :
    Calls Tryz.prog 6 #[v, v2] w fun e w' => e = .returned (.bool true) ∧ Below w.heap.size w w' := by
  obtain ⟨B, hB⟩ : ∃ B, B = w.heap.size := ⟨_, rfl⟩
  have hBH := hide hB
  have hBle := hide (show B ≤ w.heap.size by rw [hB]; exact Nat.le_refl _)
  have hKW := hide (fun W (hW : Below B w W) => RW.klaid hK (hB ▸ hW : Below w.heap.size w W))
  have hksH := hide hks
  have hSane := hide (sane_any ks hks w hK)
  rw [← hB] at hSane
  have hCut := hide (fun W (h : Below B w W) => cut_any v l hl hs W (hv.next (hB ▸ h)))
  obtain ⟨cl, hcl⟩ : ∃ c, c = RW.cutF l := ⟨_, rfl⟩
  have hcll : cl.length ≤ 25 := by rw [hcl]; exact RW.cutF_len l
  have hcs := hide (show RW.Shrt cl by rw [hcl]; exact RW.cutF_short l)
  have hOf := hide (fun W u (h : FactsV W u cl) (hb : Below B w W) => of_any RW.k0F ks hksH.out u cl (by omega) W h (hKW.out W hb))
  obtain ⟨C, hC⟩ : ∃ C, C = RW.ofE RW.k0F [] cl := ⟨_, rfl⟩
  have hOC := hide (show RW.OfC RW.k0F cl C from hC ▸ RW.OfC.of RW.k0F _ cl rfl (by omega))
  rw [← hcl] at hCut
  rw [← hC] at hOf
  have hCl : C.length ≤ 25 := Nat.le_trans hOC.out.le hcll
  obtain ⟨va, vc, rfl, _, _⟩ := Iff.mp Iff.rfl hv
  have hOR := hide hv2
  obtain ⟨oa, oc, rfl, _, _⟩ := Iff.mp Iff.rfl hv2
  obtain ⟨vn, hvn⟩ : ∃ n, n = l.length := ⟨_, rfl⟩
  obtain ⟨on, hon⟩ : ∃ n, n = ord.length := ⟨_, rfl⟩
  have honH := hide hon
  rw [← hvn] at hCut ⊢
  rw [← hon] at hOR ⊢
  rw [← hB]
  have hobH := hide hob
  clear hK hks hB hv hv2 hs hl hcl hC hvn hon hob
  go_enter Tryz.func6, Tryz.ntmps6
  go_upto_region 2 with (go_at_call 11; refine hSane.out.mono ?_; rintro e wS ⟨rfl, h⟩; have hBS := hide h; clear h)
  go_upto_region 3 with (first
    | (go_at_call 12; refine (hCut.out _ hBS).mono ?_; rintro e wC1 ⟨uC1, rfl, g1, g2⟩; have hC1 := hide (And.intro g1 (bel_cat hBS hBle.out g2)); clear g1 g2))
  have hF1 := hide hC1.out.1.facts
  obtain ⟨aC, cC, rfl, _, _⟩ := Iff.mp Iff.rfl hF1.out
  obtain ⟨n, hn⟩ : ∃ n, n = cl.length := ⟨_, rfl⟩
  have hnH := hide hn
  have hn25 : n ≤ 25 := by rw [hn]; exact hcll
  have hOfc := hide (hOf.out _ _ hF1.out hC1.out.2)
  rw [← hn] at hOfc hF1 ⊢
  clear hn
  go_upto_region 4 with (go_at_call 13; refine hOfc.out.mono ?_; rintro e wO ⟨sa, ma, rfl, g1, g2, g3, g4⟩; have hO := hide (And.intro g1 (And.intro (hF1.out.next g4) (And.intro (bel_cat hC1.out.2 hBle.out g4) g3))); clear g1 g2 g3 g4)
  obtain ⟨N, hNn⟩ : ∃ N, N = wO.heap.size := ⟨_, rfl⟩
  have hNH := hide hNn
  have hNle := hide (show N ≤ wO.heap.size by rw [hNn]; exact Nat.le_refl _)
  have hNew := hide (snew_any wO)
  rw [← hNn] at hNew
  have hBN := hide (show B ≤ N by rw [hNn, hBH.out]; exact (hBH.out ▸ hO.out.2.2.1 : Below w.heap.size w wO).size)
  clear hNn hOfc
  -- what holds of the world as long as only younger memory is written
  have hOld := hide (fun W (h : Below N wO W) => (show SetAt W sa ma C ∧ FactsV W (.slice aC n cC) cl ∧ Below B w W from ⟨hO.out.1.next (hNH.out ▸ h), hO.out.2.1.next (hNH.out ▸ h), bel_cat hO.out.2.2.1 hBle.out (hNH.out ▸ h)⟩))
  go_upto_region 5 with (go_at_call 19; refine hNew.out.mono ?_; rintro e wN ⟨sb, mb, rfl, g1, g2, g3, g4⟩; have hN0 := hide (And.intro g1 (And.intro g2 g4)); clear g1 g2 g3 g4)
  have hmb := hide hN0.out.2.2
  have hNe := hide (fun W D (h1 : Below N wO W) (h2 : SetAt W sb mb D) => (show sa ≠ mb ∧ True from ⟨h2.nem (hOld.out W h1).1.row, trivial⟩))
  have hAdd := hide (fun W D (x : RW.Fc) (h1 : Below N wO W) (h2 : SetAt W sb mb D) => sadd_any RW.k0F ks hksH.out sb mb D x W h2 (hKW.out W (hOld.out W h1).2.2))
  have hStp := hide (fun W W' (h1 : Below N wO W) (g : ChgS (fun j => j = mb) W W') => (h1.trans (g.belowJ (fun _ e => by rw [e]; exact hmb.out) (Nat.le_trans hNle.out h1.size)) : Below N wO W'))
  go_wp2
  go_loopw [8] (fun i wr => ∃ (j : Nat) (m : List RW.Fc) (D : RW.Ents), i = .int .i64 j ∧ j ≤ on ∧ j ≤ 40 ∧ Hid (RW.OfC RW.k0F m D ∧ (∀ x ∈ m, x ∈ cl) ∧ m.length ≤ j ∧ SetAt wr sb mb D ∧ Below N wO wr)) (fun i _ => on - (intOf i).toNat)
  case atStart => exact ⟨0, [], [], rfl, Nat.zero_le _, Nat.zero_le _, RW.OfC.nil _, (fun x h => by cases h), Nat.le_refl _, hN0.out.1, hN0.out.2.1⟩
  case round =>
    obtain ⟨j, m, D, rfl, hj, hj40, hQ⟩ := hrel
    obtain ⟨wo, hwo⟩ : ∃ wo, wo = wr := ⟨_, rfl⟩
    subst hwo
    obtain ⟨q, hq⟩ : ∃ q, q = decide (j < on ∧ j < 40 ∧ 0 < n) := ⟨_, rfl⟩
    have hqH := hide hq
    clear hq
    go_upto_region 6 with fail
    go_cut [32] (fun s wx => s = .bool q ∧ wx = wo)
    case first =>
      by_cases h1 : j < on
      · by_cases h2 : j < 40
        · have h2i : (j : Int) < 40 := by omega
          by_cases h3 : 0 < n
          · have h3i : (0 : Int) < (n : Int) := by omega
            go_wp2
            all_goals go_meet
            all_goals exact ⟨by rw [hqH.out, decide_eq_true (show j < on ∧ j < 40 ∧ 0 < n from ⟨h1, h2, h3⟩)] <;> rfl, rfl⟩
          · have h3i : ¬ (0 : Int) < (n : Int) := by omega
            go_wp2
            all_goals go_meet
            all_goals exact ⟨by rw [hqH.out, decide_eq_false (show ¬ (j < on ∧ j < 40 ∧ 0 < n) from fun h => h3 h.2.2)] <;> rfl, rfl⟩
        · have h2i : ¬ (j : Int) < 40 := by omega
          go_wp2
          all_goals go_meet
          all_goals exact ⟨by rw [hqH.out, decide_eq_false (show ¬ (j < on ∧ j < 40 ∧ 0 < n) from fun h => h2 h.2.1)] <;> rfl, rfl⟩
      · go_wp2
        all_goals go_meet
        all_goals exact ⟨by rw [hqH.out, decide_eq_false (show ¬ (j < on ∧ j < 40 ∧ 0 < n) from fun h => h1 h.1)] <;> rfl, rfl⟩
    case rest =>
      obtain ⟨rfl, hwx⟩ := hcut
      have hwx' := hwx.symm
      subst hwx'
      cases q with
      | true =>
        have hq1 : j < on ∧ j < 40 ∧ 0 < n := of_decide_eq_true hqH.out.symm
        obtain ⟨h1, h2, h3⟩ := hq1
        obtain ⟨z, hz⟩ : ∃ z, ord[j]? = some z := ⟨_, List.getElem?_eq_getElem (by rw [← honH.out]; exact h1)⟩
        obtain ⟨go, oo, co, e', hcell⟩ := intsR_cell (by have h := hOR.out; rw [honH.out] at h; exact h) hz
        cases e'
        have hlz := hcell wo (by rw [← hBH.out]; exact (hOld.out wo hQ.out.2.2.2.2).2.2)
        have hzb := hobH.out z (List.mem_of_getElem? hz)
        obtain ⟨k, hk⟩ : ∃ k : Nat, RW.pickI z n = (k : Int) := ⟨(RW.pickI z n).toNat, by have := RW.pickI_bd z n (by omega); omega⟩
        have hkn : k < n := by have := RW.pickI_bd z n (by omega); omega
        have hPk := hide (pick_any z n hzb.1 hzb.2 (by omega) (by omega))
        rw [hk] at hPk
        obtain ⟨x, hx⟩ : ∃ x, cl[k]? = some x := ⟨_, List.getElem?_eq_getElem (by rw [← hnH.out]; exact hkn)⟩
        obtain ⟨g0, o0, c0, e2, hcl2⟩ := factR_cell (W := wo) (by have h := (hOld.out wo hQ.out.2.2.2.2).2.1; rw [hnH.out] at h; exact h) hx
        rw [← hnH.out] at e2
        have hlx := hcl2 wo (Below.refl _ _)
        have hxm := hide (List.mem_of_getElem? hx)
        have hAd := hide (hAdd.out wo D x hQ.out.2.2.2.2 hQ.out.2.2.2.1)
        obtain ⟨fx, hfx⟩ : ∃ y, y = RW.fv x := ⟨_, rfl⟩
        rw [← hfx] at hAd hlx
        clear hcell hcl2 hk hx hfx hz hzb
        cases e2
        have hOm := hide (hQ.out.1.add (by have := hQ.out.2.2.1; omega) x)
        go_wp2_with (first
          | (go_at_call 18; refine (hPk.out _).mono ?_; rintro e wp ⟨rfl, h⟩; obtain rfl := h)
          | (go_at_call 20; refine hAd.out.mono ?_; rintro e wa ⟨rfl, g1, g2⟩; have hA := hide (And.intro g1 (hStp.out _ _ hQ.out.2.2.2.2 g2)); clear g1 g2))
        go_roundw
        case rel => exact ⟨j + 1, m ++ [x], _, by go_num, by omega, by omega, hOm.out, (fun y hy => (List.mem_append.1 hy).elim (hQ.out.2.1 y) fun h => by rw [List.mem_singleton.1 h]; exact hxm.out), by have := hQ.out.2.2.1; rw [List.length_append, List.length_singleton]; omega, hA.out.1, hA.out.2⟩
        case measure => simp [intOf]; omega
      | false =>
        clear hqH
        go_wp2
        go_loopw [9] (fun i wr => ∃ (k : Nat) (m2 : List RW.Fc) (D2 : RW.Ents), i = .int .i64 ((k : Int) - 1) ∧ k ≤ n ∧ Hid (RW.OfC RW.k0F m2 D2 ∧ (∀ x ∈ m2, x ∈ cl) ∧ (∀ i x, k ≤ i → cl[i]? = some x → x ∈ m2) ∧ m2.length + k ≤ 65 ∧ SetAt wr sb mb D2 ∧ Below N wO wr)) (fun i _ => (intOf i + 1).toNat)
        case atStart => exact ⟨n, m, D, rfl, Nat.le_refl _, hQ.out.1, hQ.out.2.1, (fun i x hi hx => absurd (List.getElem?_eq_some_iff.1 hx).1 (by rw [← hnH.out]; omega)), by have := hQ.out.2.2.1; omega, hQ.out.2.2.2.1, hQ.out.2.2.2.2⟩
        case round =>
          obtain ⟨k, m2, D2, hi, hk, hR⟩ := hrel
          obtain ⟨wp, hwp⟩ : ∃ wp, wp = wr := ⟨_, rfl⟩
          subst hwp
          rcases k with _ | p
          · have hi2 := hi.trans (show Value.int .i64 (((0 : Nat) : Int) - 1) = .int .i64 (-1) by simp)
            subst hi2
            clear hi
            -- the two sets are the same, or there are twins
            have heq := hide (show ¬ RW.TwP RW.k0F cl → C = D2 from fun ht => hOC.out.same hR.out.1 (fun x hx => by
              obtain ⟨i, hi⟩ := List.getElem?_of_mem hx
              exact hR.out.2.2.1 i x (Nat.zero_le _) hi) hR.out.2.1 ht)
            have hW0 := hide (show SetAt wp sb mb D2 ∧ Below N wO wp from hR.out.2.2.2.2)
            have hD2 : D2.length ≤ 65 := Nat.le_trans hR.out.1.le (by have := hR.out.2.2.2.1; omega)
            have hD2k := hide hR.out.1.keyle
            clear hR hQ
            go_wp2
            go_loopw [10, 11, 12, 13] (fun vl i _ _ wr => ∃ (j : Nat), vl = .int .i64 (((cl.take j).filter RW.vdB).length : Nat) ∧ i = .int .i64 j ∧ j ≤ n ∧ Hid (Below wp.heap.size wp wr)) (fun _ i _ _ _ => n - (intOf i).toNat)
            case atStart => exact ⟨0, rfl, rfl, Nat.zero_le _, Below.refl _ _⟩
            case round =>
              obtain ⟨j, rfl, rfl, hj, hT⟩ := hrel
              obtain ⟨wq, hwq⟩ : ∃ wq, wq = wr := ⟨_, rfl⟩
              subst hwq
              have hW1 := hide (show SetAt wq sb mb D2 ∧ Below N wO wq from ⟨hW0.out.1.next hT.out, hW0.out.2.trans (hT.out.mono (Nat.le_trans hNle.out hW0.out.2.size))⟩)
              have hOl := hide (hOld.out wq hW1.out.2)
              obtain ⟨vl, hvl⟩ : ∃ n, n = ((cl.take j).filter RW.vdB).length := ⟨_, rfl⟩
              have hvlH := hide hvl
              rw [← hvl]
              have hvlb : vl ≤ j := by rw [hvl]; exact Nat.le_trans (List.length_filter_le _ _) (by rw [List.length_take]; omega)
              clear hvl
              by_cases hjn : j < n
              · obtain ⟨x, hx⟩ : ∃ x, cl[j]? = some x := ⟨_, List.getElem?_eq_getElem (by rw [← hnH.out]; exact hjn)⟩
                obtain ⟨g0, o0, c0, e2, hcl2⟩ := factR_cell (W := wq) (by have h := hOl.out.2.1; rw [hnH.out] at h; exact h) hx
                rw [← hnH.out] at e2
                have hlx := hcl2 wq (Below.refl _ _)
                have hxm := List.mem_of_getElem? hx
                have hId := id_fact x.1 x.2 RW.k0F ks hksH.out wq (hKW.out wq hOl.out.2.2)
                have hHs := hide (fun W y (h : SetAt W sa ma C) => shas_any sa ma C y W h)
                have hsn := hide (show ((cl.take (j + 1)).filter RW.vdB).length = vl + if RW.vdB x = true then 1 else 0 by
                  rw [RW.take_snocE hx, List.filter_append, List.length_append, ← hvlH.out, List.filter_cons]
                  split <;> rfl)
                rw [show RW.fv x = .agg (RW.fcells x.1 x.2) from rfl] at hlx
                obtain ⟨cs, hcs⟩ : ∃ y, y = RW.fcells x.1 x.2 := ⟨_, rfl⟩
                rw [← hcs] at hId hlx
                cases hvx : RW.vdB x with
                | true =>
                  have hin : (KM.get (RW.idB RW.k0F x) C).isSome = true := hOC.out.all x hxm hvx
                  rw [RW.idR_yes _ _ _ hvx, show (⟨(RW.sha RW.k0F (RW.encL x.1 x.2.data.toList)).toArray⟩ : ByteArray) = RW.idB RW.k0F x from rfl] at hId
                  obtain ⟨ID, hID⟩ : ∃ b, b = RW.idB RW.k0F x := ⟨_, rfl⟩
                  rw [← hID] at hId hin
                  rw [hvx] at hsn
                  have hIdH := hide hId
                  have hHx := hide (fun W h => hHs.out W ID h)
                  rw [hin] at hHx
                  clear hId hin hHs hcs hID hcl2 hx hxm hvx
                  cases e2
                  go_wp2_with (first
                    | (go_at_call 38; refine hIdH.out.mono ?_; rintro e wr1 ⟨rfl, g⟩; have h1 := hide (And.intro (hOl.out.1.next g) (hT.out.trans (g.mono hT.out.size))); clear g)
                    | (go_at_call 37; refine (hHx.out _ h1.out.1).mono ?_; rintro e wr2 ⟨rfl, g⟩; have h2 := hide (h1.out.2.trans (g.mono h1.out.2.size)); clear g))
                  go_roundw
                  case rel => exact ⟨j + 1, by rw [hsn.out]; go_num, by go_num, by omega, h2.out⟩
                  case measure => simp [intOf]; omega
                | false =>
                  rw [RW.idR_no _ _ _ hvx] at hId
                  rw [hvx] at hsn
                  have hIdH := hide hId
                  have hHx := hide (fun W h => hHs.out W ⟨#[]⟩ h)
                  rw [show KM.get (⟨#[]⟩ : ByteArray) C = none from hOC.out.nokey (by decide)] at hHx
                  rw [show (none : Option Value).isSome = false from rfl] at hHx
                  clear hId hHs hcs hcl2 hx hxm hvx
                  cases e2
                  go_wp2_with (first
                    | (go_at_call 38; refine hIdH.out.mono ?_; rintro e wr1 ⟨rfl, g⟩; have h1 := hide (And.intro (hOl.out.1.next g) (hT.out.trans (g.mono hT.out.size))); clear g)
                    | (go_at_call 37; refine (hHx.out _ h1.out.1).mono ?_; rintro e wr2 ⟨rfl, g⟩; have h2 := hide (h1.out.2.trans (g.mono h1.out.2.size)); clear g))
                  go_roundw
                  case rel => exact ⟨j + 1, by rw [hsn.out]; go_num, by go_num, by omega, h2.out⟩
                  case measure => simp [intOf]; omega
              · obtain rfl : n = j := by omega
                have hvf : vl = (cl.filter RW.vdB).length := by rw [hvlH.out, hnH.out, List.take_length]
                have hSm := hide (same_any RW.k0F ks hksH.out sa ma sb mb C D2 wq hOl.out.1 hW1.out.1 (by omega) (by omega) hOC.out.keyle hD2k.out (hKW.out wq hOl.out.2.2))
                have hTw := hide (fun W (h : FactsV W (.slice aC n cC) cl) => twins_any _ cl (by rw [← hnH.out]; omega) hcs.out W h)
                have hLn := hide (fun W (h : SetAt W sa ma C) => slen_any sa ma C W h)
                obtain ⟨nc, hnc⟩ : ∃ n, n = C.length := ⟨_, rfl⟩
                rw [← hnc] at hLn
                have hle : (nc : Int) ≤ (vl : Int) := by have := hOC.out.len; rw [← hvf, ← hnc] at this; omega
                have hpos : vl = 0 ∨ 0 < nc := by
                  rcases Nat.eq_zero_or_pos vl with h | h
                  · exact .inl h
                  · right
                    rw [hvf] at h
                    obtain ⟨y, hy⟩ := List.exists_mem_of_length_pos h
                    rw [List.mem_filter] at hy
                    have h1 := hOC.out.all y hy.1 hy.2
                    rw [hnc]
                    refine Nat.pos_of_ne_zero fun e => ?_
                    rw [List.eq_nil_of_length_eq_zero e, KM.get_nil] at h1
                    cases h1
                clear hnc hvf
                go_upto_region 22 with fail
                have hB2 := hide hOl.out.2.2
                obtain ⟨z0, hz0⟩ : ∃ z, z = decide (vl = 0) := ⟨_, rfl⟩
                have hq0 : ((vl : Int) == 0) = z0 := by
                  rw [hz0]
                  by_cases h : vl = 0
                  · rw [h]; rfl
                  · rw [decide_eq_false h]; simp; omega
                have hp2 := hide (show z0 = false → (0 : Int) < (nc : Int) from fun h => by
                  rw [hz0, decide_eq_false_iff_not] at h
                  have := hpos.resolve_left h
                  omega)
                clear hz0 hpos
                cases z0 with
                | true =>
                  go_wp2_with (first
                    | (go_at_call 39; refine hSm.out.mono ?_; rintro e wE1 ⟨⟨b1, rfl, hb⟩, g⟩; have hb1 := hide hb; have hJ1 := hide (And.intro (hOl.out.1.next g) (And.intro (hOl.out.2.1.next g) (bel_cat hB2.out hBle.out g))); clear g hb; cases b1)
                    | (go_at_call 40; refine (hTw.out _ hJ1.out.2.1).mono ?_; rintro e wE3 ⟨⟨b3, rfl, hb⟩, g⟩; have hJ3 := hide (And.intro (hJ1.out.1.next g) (bel_cat hJ1.out.2.2 hBle.out g)); have hb3 : b3 = true := hb (Classical.byContradiction fun ht => absurd (hb1.out (heq.out ht)) (by simp)); subst hb3; clear g hb)
                    | (go_at_call 23; refine (hLn.out _ hJ3.out.1).mono ?_; rintro e wL ⟨rfl, h⟩; obtain rfl := h.symm)
                    | (go_at_call 23; refine (hLn.out _ hJ1.out.1).mono ?_; rintro e wL ⟨rfl, h⟩; obtain rfl := h.symm))
                  all_goals go_ret
                  all_goals refine ⟨?_, by first | exact hJ3.out.2 | exact hJ1.out.2.2⟩
                  all_goals (simp <;> omega)
                | false =>
                  have hp3 := hp2.out rfl
                  go_wp2_with (first
                    | (go_at_call 39; refine hSm.out.mono ?_; rintro e wE1 ⟨⟨b1, rfl, hb⟩, g⟩; have hb1 := hide hb; have hJ1 := hide (And.intro (hOl.out.1.next g) (And.intro (hOl.out.2.1.next g) (bel_cat hB2.out hBle.out g))); clear g hb; cases b1)
                    | (go_at_call 40; refine (hTw.out _ hJ1.out.2.1).mono ?_; rintro e wE3 ⟨⟨b3, rfl, hb⟩, g⟩; have hJ3 := hide (And.intro (hJ1.out.1.next g) (bel_cat hJ1.out.2.2 hBle.out g)); have hb3 : b3 = true := hb (Classical.byContradiction fun ht => absurd (hb1.out (heq.out ht)) (by simp)); subst hb3; clear g hb)
                    | (go_at_call 23; refine (hLn.out _ hJ3.out.1).mono ?_; rintro e wL ⟨rfl, h⟩; obtain rfl := h.symm)
                    | (go_at_call 23; refine (hLn.out _ hJ1.out.1).mono ?_; rintro e wL ⟨rfl, h⟩; obtain rfl := h.symm))
                  all_goals go_ret
                  all_goals refine ⟨?_, by first | exact hJ3.out.2 | exact hJ1.out.2.2⟩
                  all_goals (simp <;> omega)
          · have hi2 := hi.trans (show Value.int .i64 (((p + 1 : Nat) : Int) - 1) = .int .i64 (p : Int) by congr 1; omega)
            subst hi2
            obtain ⟨x, hx⟩ : ∃ x, cl[p]? = some x := ⟨_, List.getElem?_eq_getElem (by rw [← hnH.out]; omega)⟩
            obtain ⟨g0, o0, c0, e2, hcl2⟩ := factR_cell (W := wp) (by have h := (hOld.out wp hR.out.2.2.2.2.2).2.1; rw [hnH.out] at h; exact h) hx
            rw [← hnH.out] at e2
            have hlx := hcl2 wp (Below.refl _ _)
            have hxm := hide (List.mem_of_getElem? hx)
            have hxH := hide hx
            have hAd := hide (hAdd.out wp D2 x hR.out.2.2.2.2.2 hR.out.2.2.2.2.1)
            have hOm := hide (hR.out.1.add (by have := hR.out.2.2.2.1; omega) x)
            obtain ⟨fx, hfx⟩ : ∃ y, y = RW.fv x := ⟨_, rfl⟩
            rw [← hfx] at hAd hlx
            have hpn : p < n := by omega
            clear hcl2 hx hfx hi
            cases e2
            go_wp2_with (go_at_call 20; refine hAd.out.mono ?_; rintro e wa ⟨rfl, g1, g2⟩; have hA := hide (And.intro g1 (hStp.out _ _ hR.out.2.2.2.2.2 g2)); clear g1 g2)
            go_roundw
            case rel => exact ⟨p, m2 ++ [x], _, by go_num, by omega, hOm.out, (fun y hy => (List.mem_append.1 hy).elim (hR.out.2.1 y) fun h => by rw [List.mem_singleton.1 h]; exact hxm.out), (fun i y hi hy => by
              rcases Nat.lt_or_eq_of_le hi with h | h
              · exact List.mem_append_left _ (hR.out.2.2.1 i y h hy)
              · subst h
                rw [hxH.out] at hy
                cases hy
                simp), by have := hR.out.2.2.2.1; rw [List.length_append, List.length_singleton]; omega, hA.out.1, hA.out.2⟩
            case measure => simp [intOf]
end Go.Proofs.YtnlphbfjeekooaaGreatDoor

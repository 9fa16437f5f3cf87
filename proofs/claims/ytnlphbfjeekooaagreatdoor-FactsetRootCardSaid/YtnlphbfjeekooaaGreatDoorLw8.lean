/-
  Package royaltylaw06: FactsetRoot: it returns true; only new memory is written.
-/
import Derived.Test.YtnlphbfjeekooaaGreatDoorRr2
import Derived.Test.YtnlphbfjeekooaaGreatDoorMP
namespace Go.Proofs.YtnlphbfjeekooaaGreatDoor
open Go.RowKit RG
attribute [local go_sem ↓] ldRow_fact
set_option maxRecDepth 100000 in
set_option maxHeartbeats 8000000 in
theorem root_law (v v2 : Value) (l m : List RW.Fc) (hl : l.length ≤ 9223372036854775807) (hs : ∀ x ∈ l, x.2.size ≤ 9223372036854775807) (hl2 : m.length ≤ 9223372036854775807) (hs2 : ∀ x ∈ m, x.2.size ≤ 9223372036854775807) (less : Bool)
    (ks : Array Value) (hks : RW.WsOk ks RW.k0F) (w : World) (hv : FactsV w v l) (hv2 : FactsV w v2 m) (hK : KLaid w ks) :
    Calls Tryz.prog 3 #[v, v2, .bool less] w fun e w' => e = .returned (.bool true) ∧ Below w.heap.size w w' := by
  obtain ⟨B, hB⟩ : ∃ B, B = w.heap.size := ⟨_, rfl⟩
  have hBH := hide hB
  have hBle := hide (show B ≤ w.heap.size by rw [hB]; exact Nat.le_refl _)
  have hKW := hide (fun W (hW : Below B w W) => RW.klaid hK (hB ▸ hW : Below w.heap.size w W))
  have hksH := hide hks
  have hSane := hide (sane_any ks hks w hK)
  rw [← hB] at hSane
  have hCut1 := hide (fun W (h : Below B w W) => cut_any v l hl hs W (hv.next (hB ▸ h)))
  have hCut2 := hide (fun W (h : Below B w W) => cut_any v2 m hl2 hs2 W (hv2.next (hB ▸ h)))
  obtain ⟨c1, hc1⟩ : ∃ c, c = RW.cutF l := ⟨_, rfl⟩
  obtain ⟨c2, hc2⟩ : ∃ c, c = RW.cutF m := ⟨_, rfl⟩
  have hcl1 : c1.length ≤ 25 := by rw [hc1]; exact RW.cutF_len l
  have hcl2 : c2.length ≤ 25 := by rw [hc2]; exact RW.cutF_len m
  rw [← hc1] at hCut1
  rw [← hc2] at hCut2
  obtain ⟨va, vc, rfl, _, _⟩ := Iff.mp Iff.rfl hv
  obtain ⟨va2, vc2, rfl, _, _⟩ := Iff.mp Iff.rfl hv2
  obtain ⟨vn, hvn⟩ : ∃ n, n = l.length := ⟨_, rfl⟩
  obtain ⟨vn2, hvn2⟩ : ∃ n, n = m.length := ⟨_, rfl⟩
  rw [← hvn] at hCut1 ⊢
  rw [← hvn2] at hCut2 ⊢
  rw [← hB]
  have hOfG := hide (fun W u c (hc : c.length ≤ 25) (h : FactsV W u c) (hb : Below B w W) => of_any RW.k0F ks hksH.out u c (by omega) W h (hKW.out W hb))
  -- two sets that were made of facts: their IDs, their roots
  have hRt := hide (fun W s mm C (hC : C.length ≤ 25) (hk : ∀ x ∈ C, x.1.size ≤ 1000000) (h : SetAt W s mm C) (hb : Below B w W) => sroot_any RW.k0F ks hksH.out s mm C (by omega) hk W h (hKW.out W hb))
  clear hK hks hB hv hv2 hs hs2 hl hl2 hc1 hc2 hvn hvn2
  have tok1 : True := trivial
  go_enter Tryz.func3, Tryz.ntmps3
  go_upto_region 2 with (go_at_call 11; refine hSane.out.mono ?_; rintro e wS ⟨rfl, h⟩; have hBS := hide h; clear h)
  go_upto_region 3 with (first
    | (go_at_call 12; refine (hCut1.out _ hBS).mono ?_; rintro e wC1 ⟨uC1, rfl, g1, g2⟩; have hC1 := hide (And.intro g1 (bel_cat hBS hBle.out g2)); clear g1 g2))
  go_upto_region 4 with (go_at_call 12; refine (hCut2.out _ hC1.out.2).mono ?_; rintro e wC2 ⟨uC2, rfl, g1, g2⟩; have hC2 := hide (And.intro (hC1.out.1.facts.next g2) (And.intro g1.facts (bel_cat hC1.out.2 hBle.out g2))); clear g1 g2)
  obtain ⟨a1, k1, rfl, hk1, _⟩ := Iff.mp Iff.rfl hC2.out.1
  obtain ⟨a2, k2, rfl, _, _⟩ := Iff.mp Iff.rfl hC2.out.2.1
  obtain ⟨n1, hn1⟩ : ∃ n, n = c1.length := ⟨_, rfl⟩
  obtain ⟨n2, hn2⟩ : ∃ n, n = c2.length := ⟨_, rfl⟩
  have hn1H := hide hn1
  rw [← hn1] at hcl1 hC2 hk1 ⊢
  rw [← hn2] at hcl2 hC2 ⊢
  have hn2H := hide hn2
  clear hn1 hn2
  cases less with
  | false =>
    go_upto_region 6 with fail
    have hV := hide (show ∃ d : List RW.Fc, d.length ≤ 25 ∧ FactsV wC2 (.slice a2 n2 k2) d from ⟨c2, by rw [← hn2H.out]; exact hcl2, hC2.out.2.1⟩)
    obtain ⟨d, hd25, hd⟩ := hV.out
    have hdH := hide hd
    clear hd
    obtain ⟨C, hC⟩ : ∃ C, C = RW.ofE RW.k0F [] c1 := ⟨_, rfl⟩
    obtain ⟨D, hD⟩ : ∃ D, D = RW.ofE RW.k0F [] d := ⟨_, rfl⟩
    have hOC := hide (show RW.OfC RW.k0F c1 C from hC ▸ RW.OfC.of RW.k0F _ c1 rfl (by rw [← hn1H.out]; omega))
    have hOD := hide (show RW.OfC RW.k0F d D from hD ▸ RW.OfC.of RW.k0F _ d rfl (by omega))
    have hCl : C.length ≤ 25 := Nat.le_trans hOC.out.le (by rw [← hn1H.out]; exact hcl1)
    have hDl : D.length ≤ 25 := Nat.le_trans hOD.out.le hd25
    have hO1 := hide (hOfG.out wC2 (.slice a1 n1 k1) c1 (by rw [← hn1H.out]; exact hcl1) hC2.out.1 hC2.out.2.2)
    have hO2 := hide (fun W (h : Below wC2.heap.size wC2 W) => hOfG.out W (.slice a2 n2 k2) d hd25 (hdH.out.next h) (bel_cat hC2.out.2.2 hBle.out h))
    rw [← hC] at hO1
    rw [← hD] at hO2
    clear hC hD hV
    go_upto_region 8 with (first
      | (go_at_call 13; have _t := tok1; refine hO1.out.mono ?_; rintro e w1 ⟨s1, m1, rfl, g1, g2, g3, g4⟩; have h1 := hide (And.intro g1 g4); clear g1 g2 g3 g4 tok1 _t)
      | (go_at_call 13; refine (hO2.out _ h1.out.2).mono ?_; rintro e w2 ⟨s2, m2, rfl, g1, g2, g3, g4⟩; have h2 := hide (And.intro (h1.out.1.next g4) (And.intro g1 (bel_cat hC2.out.2.2 hBle.out (h1.out.2.trans (g4.mono h1.out.2.size))))); clear g1 g2 g3 g4))
    have hI1 := hide (sids_any s1 m1 C (by omega) w2 h2.out.1)
    go_upto_region 9 with (go_at_call 14; refine hI1.out.mono ?_; rintro e w3 ⟨u3, rfl, g1, g2⟩; have h3 := hide (And.intro (strs_own g1) (And.intro (h2.out.1.next g2) (And.intro (h2.out.2.1.next g2) (bel_cat h2.out.2.2 hBle.out g2)))); clear g1 g2)
    have hI2 := hide (sids_any s2 m2 D (by omega) w3 h3.out.2.2.1)
    go_upto_region 10 with (go_at_call 14; refine hI2.out.mono ?_; rintro e w4 ⟨u4, rfl, g1, g2⟩; have h4 := hide (And.intro (h3.out.1.next g2) (And.intro (strs_own g1) (And.intro (h3.out.2.1.next g2) (And.intro (h3.out.2.2.1.next g2) (bel_cat h3.out.2.2.2 hBle.out g2))))); clear g1 g2)
    have hSS := hide (ss_any u3 u4 (C.map (·.1)) (D.map (·.1)) w4 h4.out.1 h4.out.2.1 (by rw [List.length_map]; omega) (by rw [List.length_map]; omega))
    have hcol := hide (fun W (h : Below w4.heap.size w4 W) => collide_any u3 u4 (C.map (·.1)) (D.map (·.1)) W (h4.out.1.next h) (h4.out.2.1.next h) (by rw [List.length_map]; omega) (by rw [List.length_map]; omega) (fun s hs => by obtain ⟨x, hx, rfl⟩ := List.mem_map.1 hs; exact hOC.out.keyle x hx) (fun s hs => by obtain ⟨x, hx, rfl⟩ := List.mem_map.1 hs; exact hOD.out.keyle x hx))
    have hR1 := hide (fun W (h : SetAt W s1 m1 C) (hb : Below B w W) => hRt.out W s1 m1 C hCl hOC.out.keyle h hb)
    have hR2 := hide (fun W (h : SetAt W s2 m2 D) (hb : Below B w W) => hRt.out W s2 m2 D hDl hOD.out.keyle h hb)
    obtain ⟨r1, hr1⟩ : ∃ r, r = RW.rootB RW.k0F (C.map (·.1)) := ⟨_, rfl⟩
    obtain ⟨r2, hr2⟩ : ∃ r, r = RW.rootB RW.k0F (D.map (·.1)) := ⟨_, rfl⟩
    rw [← hr1] at hR1
    rw [← hr2] at hR2
    have tok2 : True := trivial
    by_cases hid : C.map (·.1) = D.map (·.1)
    · have hrr : r2 = r1 := by rw [hr1, hr2, hid]
      rw [hrr] at hR2
      rw [decide_eq_true hid] at hSS
      clear hid hrr hr1 hr2 hcol
      go_wp2_with (first
        | (go_at_call 15; refine hSS.out.mono ?_; rintro e w5 ⟨rfl, g⟩; have h5 := hide (And.intro (h4.out.2.2.1.next g) (And.intro (h4.out.2.2.2.1.next g) (bel_cat h4.out.2.2.2.2 hBle.out g))); clear g)
        | (go_at_call 16; have _t := tok2; refine (hR1.out _ h5.out.1 h5.out.2.2).mono ?_; rintro e w6 ⟨rfl, g⟩; have h6 := hide (And.intro (h5.out.2.1.next g) (bel_cat h5.out.2.2 hBle.out g)); clear g tok2 _t)
        | (go_at_call 16; refine (hR2.out _ h6.out.1 h6.out.2).mono ?_; rintro e w7 ⟨rfl, g⟩; have h7 := hide (bel_cat h6.out.2 hBle.out g); clear g))
      go_ret
      exact ⟨by simp, h7.out⟩
    · rw [decide_eq_false hid] at hSS
      have hcc := hide (show r1 = r2 → RW.Coll RW.k0F (RW.hshR RW.k0F (C.map (·.1))) (RW.hshR RW.k0F (D.map (·.1))) from fun e => by
        rw [hr1, hr2, RW.rootB_eq, RW.rootB_eq] at e
        exact (RW.root_inj RW.k0F _ _ _ (Nat.le_refl _) e).resolve_left hid)
      clear hid hr1 hr2
      by_cases hrr : r1 = r2
      · have hq : (r1.toList == r2.toList) = true := by rw [str_eqF, decide_eq_true hrr]
        have hco := hide (hcc.out hrr)
        clear hrr hcc
        go_wp2_with (first
          | (go_at_call 15; refine hSS.out.mono ?_; rintro e w5 ⟨rfl, g⟩; have h5 := hide (And.intro (h4.out.2.2.1.next g) (And.intro (h4.out.2.2.2.1.next g) (And.intro (bel_cat h4.out.2.2.2.2 hBle.out g) g))); clear g)
          | (go_at_call 16; have _t := tok2; refine (hR1.out _ h5.out.1 h5.out.2.2.1).mono ?_; rintro e w6 ⟨rfl, g⟩; have h6 := hide (And.intro (h5.out.2.1.next g) (And.intro (bel_cat h5.out.2.2.1 hBle.out g) (h5.out.2.2.2.trans (g.mono h5.out.2.2.2.size)))); clear g tok2 _t)
          | (go_at_call 16; refine (hR2.out _ h6.out.1 h6.out.2.1).mono ?_; rintro e w7 ⟨rfl, g⟩; have h7 := hide (And.intro (bel_cat h6.out.2.1 hBle.out g) (h6.out.2.2.trans (g.mono h6.out.2.2.size))); clear g)
          | (go_at_call 17; refine (hcol.out _ h7.out.2).mono ?_; rintro e w8 ⟨⟨b, rfl, hb⟩, g⟩; have hbt := hb hco.out; subst hbt; have h8 := hide (bel_cat h7.out.1 hBle.out g); clear g hb))
        go_ret
        exact ⟨by simp, h8.out⟩
      · have hq : (r1.toList == r2.toList) = false := by rw [str_eqF, decide_eq_false hrr]
        clear hrr hcc hcol
        go_wp2_with (first
          | (go_at_call 15; refine hSS.out.mono ?_; rintro e w5 ⟨rfl, g⟩; have h5 := hide (And.intro (h4.out.2.2.1.next g) (And.intro (h4.out.2.2.2.1.next g) (bel_cat h4.out.2.2.2.2 hBle.out g))); clear g)
          | (go_at_call 16; have _t := tok2; refine (hR1.out _ h5.out.1 h5.out.2.2).mono ?_; rintro e w6 ⟨rfl, g⟩; have h6 := hide (And.intro (h5.out.2.1.next g) (bel_cat h5.out.2.2 hBle.out g)); clear g tok2 _t)
          | (go_at_call 16; refine (hR2.out _ h6.out.1 h6.out.2).mono ?_; rintro e w7 ⟨rfl, g⟩; have h7 := hide (bel_cat h6.out.2 hBle.out g); clear g))
        go_ret
        exact ⟨by simp, h7.out⟩
  | true =>
    obtain ⟨q, hq⟩ : ∃ q, q = n1 - 1 := ⟨_, rfl⟩
    have hmx : max ((n1 : Int) - 1) 0 = (q : Int) := by omega
    have hqn : q ≤ n1 := by omega
    have hqk : (q : Int) ≤ (k1 : Int) := by omega
    have hq0 : (0 : Int) ≤ (q : Int) := by omega
    clear hq
    go_upto_region 6 with fail
    have hV := hide (show ∃ d : List RW.Fc, d.length ≤ 25 ∧ FactsV wC2 (.slice a1 q k1) d from ⟨c1.take q, by rw [List.length_take]; omega, RowV.first hC2.out.1 q (by rw [← hn1H.out]; exact hqn)⟩)
    clear hmx hqk hq0
    obtain ⟨d, hd25, hd⟩ := hV.out
    have hdH := hide hd
    clear hd
    obtain ⟨C, hC⟩ : ∃ C, C = RW.ofE RW.k0F [] c1 := ⟨_, rfl⟩
    obtain ⟨D, hD⟩ : ∃ D, D = RW.ofE RW.k0F [] d := ⟨_, rfl⟩
    have hOC := hide (show RW.OfC RW.k0F c1 C from hC ▸ RW.OfC.of RW.k0F _ c1 rfl (by rw [← hn1H.out]; omega))
    have hOD := hide (show RW.OfC RW.k0F d D from hD ▸ RW.OfC.of RW.k0F _ d rfl (by omega))
    have hCl : C.length ≤ 25 := Nat.le_trans hOC.out.le (by rw [← hn1H.out]; exact hcl1)
    have hDl : D.length ≤ 25 := Nat.le_trans hOD.out.le hd25
    have hO1 := hide (hOfG.out wC2 (.slice a1 n1 k1) c1 (by rw [← hn1H.out]; exact hcl1) hC2.out.1 hC2.out.2.2)
    have hO2 := hide (fun W (h : Below wC2.heap.size wC2 W) => hOfG.out W (.slice a1 q k1) d hd25 (hdH.out.next h) (bel_cat hC2.out.2.2 hBle.out h))
    rw [← hC] at hO1
    rw [← hD] at hO2
    clear hC hD hV
    go_upto_region 8 with (first
      | (go_at_call 13; have _t := tok1; refine hO1.out.mono ?_; rintro e w1 ⟨s1, m1, rfl, g1, g2, g3, g4⟩; have h1 := hide (And.intro g1 g4); clear g1 g2 g3 g4 tok1 _t)
      | (go_at_call 13; refine (hO2.out _ h1.out.2).mono ?_; rintro e w2 ⟨s2, m2, rfl, g1, g2, g3, g4⟩; have h2 := hide (And.intro (h1.out.1.next g4) (And.intro g1 (bel_cat hC2.out.2.2 hBle.out (h1.out.2.trans (g4.mono h1.out.2.size))))); clear g1 g2 g3 g4))
    have hI1 := hide (sids_any s1 m1 C (by omega) w2 h2.out.1)
    go_upto_region 9 with (go_at_call 14; refine hI1.out.mono ?_; rintro e w3 ⟨u3, rfl, g1, g2⟩; have h3 := hide (And.intro (strs_own g1) (And.intro (h2.out.1.next g2) (And.intro (h2.out.2.1.next g2) (bel_cat h2.out.2.2 hBle.out g2)))); clear g1 g2)
    have hI2 := hide (sids_any s2 m2 D (by omega) w3 h3.out.2.2.1)
    go_upto_region 10 with (go_at_call 14; refine hI2.out.mono ?_; rintro e w4 ⟨u4, rfl, g1, g2⟩; have h4 := hide (And.intro (h3.out.1.next g2) (And.intro (strs_own g1) (And.intro (h3.out.2.1.next g2) (And.intro (h3.out.2.2.1.next g2) (bel_cat h3.out.2.2.2 hBle.out g2))))); clear g1 g2)
    have hSS := hide (ss_any u3 u4 (C.map (·.1)) (D.map (·.1)) w4 h4.out.1 h4.out.2.1 (by rw [List.length_map]; omega) (by rw [List.length_map]; omega))
    have hcol := hide (fun W (h : Below w4.heap.size w4 W) => collide_any u3 u4 (C.map (·.1)) (D.map (·.1)) W (h4.out.1.next h) (h4.out.2.1.next h) (by rw [List.length_map]; omega) (by rw [List.length_map]; omega) (fun s hs => by obtain ⟨x, hx, rfl⟩ := List.mem_map.1 hs; exact hOC.out.keyle x hx) (fun s hs => by obtain ⟨x, hx, rfl⟩ := List.mem_map.1 hs; exact hOD.out.keyle x hx))
    have hR1 := hide (fun W (h : SetAt W s1 m1 C) (hb : Below B w W) => hRt.out W s1 m1 C hCl hOC.out.keyle h hb)
    have hR2 := hide (fun W (h : SetAt W s2 m2 D) (hb : Below B w W) => hRt.out W s2 m2 D hDl hOD.out.keyle h hb)
    obtain ⟨r1, hr1⟩ : ∃ r, r = RW.rootB RW.k0F (C.map (·.1)) := ⟨_, rfl⟩
    obtain ⟨r2, hr2⟩ : ∃ r, r = RW.rootB RW.k0F (D.map (·.1)) := ⟨_, rfl⟩
    rw [← hr1] at hR1
    rw [← hr2] at hR2
    have tok2 : True := trivial
    by_cases hid : C.map (·.1) = D.map (·.1)
    · have hrr : r2 = r1 := by rw [hr1, hr2, hid]
      rw [hrr] at hR2
      rw [decide_eq_true hid] at hSS
      clear hid hrr hr1 hr2 hcol
      go_wp2_with (first
        | (go_at_call 15; refine hSS.out.mono ?_; rintro e w5 ⟨rfl, g⟩; have h5 := hide (And.intro (h4.out.2.2.1.next g) (And.intro (h4.out.2.2.2.1.next g) (bel_cat h4.out.2.2.2.2 hBle.out g))); clear g)
        | (go_at_call 16; have _t := tok2; refine (hR1.out _ h5.out.1 h5.out.2.2).mono ?_; rintro e w6 ⟨rfl, g⟩; have h6 := hide (And.intro (h5.out.2.1.next g) (bel_cat h5.out.2.2 hBle.out g)); clear g tok2 _t)
        | (go_at_call 16; refine (hR2.out _ h6.out.1 h6.out.2).mono ?_; rintro e w7 ⟨rfl, g⟩; have h7 := hide (bel_cat h6.out.2 hBle.out g); clear g))
      go_ret
      exact ⟨by simp, h7.out⟩
    · rw [decide_eq_false hid] at hSS
      have hcc := hide (show r1 = r2 → RW.Coll RW.k0F (RW.hshR RW.k0F (C.map (·.1))) (RW.hshR RW.k0F (D.map (·.1))) from fun e => by
        rw [hr1, hr2, RW.rootB_eq, RW.rootB_eq] at e
        exact (RW.root_inj RW.k0F _ _ _ (Nat.le_refl _) e).resolve_left hid)
      clear hid hr1 hr2
      by_cases hrr : r1 = r2
      · have hq : (r1.toList == r2.toList) = true := by rw [str_eqF, decide_eq_true hrr]
        have hco := hide (hcc.out hrr)
        clear hrr hcc
        go_wp2_with (first
          | (go_at_call 15; refine hSS.out.mono ?_; rintro e w5 ⟨rfl, g⟩; have h5 := hide (And.intro (h4.out.2.2.1.next g) (And.intro (h4.out.2.2.2.1.next g) (And.intro (bel_cat h4.out.2.2.2.2 hBle.out g) g))); clear g)
          | (go_at_call 16; have _t := tok2; refine (hR1.out _ h5.out.1 h5.out.2.2.1).mono ?_; rintro e w6 ⟨rfl, g⟩; have h6 := hide (And.intro (h5.out.2.1.next g) (And.intro (bel_cat h5.out.2.2.1 hBle.out g) (h5.out.2.2.2.trans (g.mono h5.out.2.2.2.size)))); clear g tok2 _t)
          | (go_at_call 16; refine (hR2.out _ h6.out.1 h6.out.2.1).mono ?_; rintro e w7 ⟨rfl, g⟩; have h7 := hide (And.intro (bel_cat h6.out.2.1 hBle.out g) (h6.out.2.2.trans (g.mono h6.out.2.2.size))); clear g)
          | (go_at_call 17; refine (hcol.out _ h7.out.2).mono ?_; rintro e w8 ⟨⟨b, rfl, hb⟩, g⟩; have hbt := hb hco.out; subst hbt; have h8 := hide (bel_cat h7.out.1 hBle.out g); clear g hb))
        go_ret
        exact ⟨by simp, h8.out⟩
      · have hq : (r1.toList == r2.toList) = false := by rw [str_eqF, decide_eq_false hrr]
        clear hrr hcc hcol
        go_wp2_with (first
          | (go_at_call 15; refine hSS.out.mono ?_; rintro e w5 ⟨rfl, g⟩; have h5 := hide (And.intro (h4.out.2.2.1.next g) (And.intro (h4.out.2.2.2.1.next g) (bel_cat h4.out.2.2.2.2 hBle.out g))); clear g)
          | (go_at_call 16; have _t := tok2; refine (hR1.out _ h5.out.1 h5.out.2.2).mono ?_; rintro e w6 ⟨rfl, g⟩; have h6 := hide (And.intro (h5.out.2.1.next g) (bel_cat h5.out.2.2 hBle.out g)); clear g tok2 _t)
          | (go_at_call 16; refine (hR2.out _ h6.out.1 h6.out.2).mono ?_; rintro e w7 ⟨rfl, g⟩; have h7 := hide (bel_cat h6.out.2 hBle.out g); clear g))
        go_ret
        exact ⟨by simp, h7.out⟩
end Go.Proofs.YtnlphbfjeekooaaGreatDoor

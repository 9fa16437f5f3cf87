/-
  Package royaltylaw06: FactsetUnion: it returns true; only new memory is written.
-/
import Derived.Test.YtnlphbfjeekooaaGreatDoorFl6
namespace Go.Proofs.YtnlphbfjeekooaaGreatDoor
open Go.RowKit RG
/-- five sets in memory, of different maps -/
structure U5 (B : Nat) (w : World) (a b c d e : Nat × Nat) (A Bb Cc D E : RW.Ents) (W : World) : Prop where
  a : SetAt W a.1 a.2 A
  b : SetAt W b.1 b.2 Bb
  c : SetAt W c.1 c.2 Cc
  d : SetAt W d.1 d.2 D
  e : SetAt W e.1 e.2 E
  bel : Below B w W
section
variable {B : Nat} {w W W' : World} {a b c d e : Nat × Nat} {A Bb Cc D E D' E' : RW.Ents}
theorem U5.next (h : U5 B w a b c d e A Bb Cc D E W) (hle : B ≤ w.heap.size) (g : Below W.heap.size W W') : U5 B w a b c d e A Bb Cc D E W' :=
  ⟨h.a.next g, h.b.next g, h.c.next g, h.d.next g, h.e.next g, bel_cat h.bel hle g⟩
/-- the maps are different, all of them the call's own -/
structure U5N (B : Nat) (a b c d e : Nat × Nat) : Prop where
  ad : a.2 ≠ d.2
  bd : b.2 ≠ d.2
  cd : c.2 ≠ d.2
  ae : a.2 ≠ e.2
  be : b.2 ≠ e.2
  ce : c.2 ≠ e.2
  de : d.2 ≠ e.2
  bd' : B ≤ d.2
  be' : B ≤ e.2
theorem U5.chD (h : U5 B w a b c d e A Bb Cc D E W) (n : U5N B a b c d e) (hle : B ≤ w.heap.size) (h1 : SetAt W' d.1 d.2 D') (g : ChgS (fun j => j = d.2) W W') : U5 B w a b c d e A Bb Cc D' E W' :=
  ⟨h.a.chg g (h.d.nem h.a.row) n.ad, h.b.chg g (h.d.nem h.b.row) n.bd, h.c.chg g (h.d.nem h.c.row) n.cd, h1, h.e.chg g (h.d.nem h.e.row) n.de.symm, h.bel.trans (g.belowJ (fun _ e => by rw [e]; exact n.bd') (Nat.le_trans hle h.bel.size))⟩
theorem U5.chE (h : U5 B w a b c d e A Bb Cc D E W) (n : U5N B a b c d e) (hle : B ≤ w.heap.size) (h1 : SetAt W' e.1 e.2 E') (g : ChgS (fun j => j = e.2) W W') : U5 B w a b c d e A Bb Cc D E' W' :=
  ⟨h.a.chg g (h.e.nem h.a.row) n.ae, h.b.chg g (h.e.nem h.b.row) n.be, h.c.chg g (h.e.nem h.c.row) n.ce, h.d.chg g (h.e.nem h.d.row) n.de, h1, h.bel.trans (g.belowJ (fun _ e => by rw [e]; exact n.be') (Nat.le_trans hle h.bel.size))⟩
end
theorem uniR_ok {C D : RW.Ents} (h : (RW.uniE D C).length ≤ 4000) : RW.uniR D C = (0, RW.uniE D C) := by unfold RW.uniR; rw [if_neg (by omega)]
attribute [local go_sem ↓] ldRow_fact
set_option maxRecDepth 100000 in
set_option maxHeartbeats 8000000 in
theorem union_law (v v2 v3 : Value) (l m k : List RW.Fc) (hl : l.length ≤ 9223372036854775807) (hs : ∀ x ∈ l, x.2.size ≤ 9223372036854775807) (hl2 : m.length ≤ 9223372036854775807) (hs2 : ∀ x ∈ m, x.2.size ≤ 9223372036854775807) (hl3 : k.length ≤ 9223372036854775807) (hs3 : ∀ x ∈ k, x.2.size ≤ 9223372036854775807)
    (ks : Array Value) (hks : RW.WsOk ks RW.k0F) (w : World) (hv : FactsV w v l) (hv2 : FactsV w v2 m) (hv3 : FactsV w v3 k) (hK : KLaid w ks) :
    Calls Tryz.prog 7 #[v, v2, v3] w fun e w' => e = .returned (.bool true) ∧ Below w.heap.size w w' := by
  obtain ⟨B, hB⟩ : ∃ B, B = w.heap.size := ⟨_, rfl⟩
  have hBH := hide hB
  have hBle := hide (show B ≤ w.heap.size by rw [hB]; exact Nat.le_refl _)
  have hKW := hide (fun W (hW : Below B w W) => RW.klaid hK (hB ▸ hW : Below w.heap.size w W))
  have hksH := hide hks
  have hSane := hide (sane_any ks hks w hK)
  rw [← hB] at hSane

  have hCut1 := hide (fun W (h : Below B w W) => cut_any v l hl hs W (hv.next (hB ▸ h)))
  obtain ⟨c1, hc1⟩ : ∃ c, c = RW.cutF l := ⟨_, rfl⟩
  have hcl1 : c1.length ≤ 25 := by rw [hc1]; exact RW.cutF_len l
  have hcs1 := hide (show RW.Shrt c1 by rw [hc1]; exact RW.cutF_short l)
  have hOf1 := hide (fun W u (h : FactsV W u c1) (hb : Below B w W) => of_any RW.k0F ks hksH.out u c1 (by omega) W h (hKW.out W hb))
  obtain ⟨C1, hC1⟩ : ∃ C, C = RW.ofE RW.k0F [] c1 := ⟨_, rfl⟩
  have hOC1 := hide (show RW.OfC RW.k0F c1 C1 from hC1 ▸ RW.OfC.of RW.k0F _ c1 rfl (by omega))
  rw [← hc1] at hCut1
  rw [← hC1] at hOf1
  have hCl1 := hide (show C1.length ≤ 25 from Nat.le_trans hOC1.out.le hcl1)
  obtain ⟨va1, vc1, rfl, _, _⟩ := Iff.mp Iff.rfl hv
  obtain ⟨vn1, hvn1⟩ : ∃ n, n = l.length := ⟨_, rfl⟩
  rw [← hvn1] at hCut1 ⊢
  clear hv hs hl hc1 hC1 hvn1
  have hCut2 := hide (fun W (h : Below B w W) => cut_any v2 m hl2 hs2 W (hv2.next (hB ▸ h)))
  obtain ⟨c2, hc2⟩ : ∃ c, c = RW.cutF m := ⟨_, rfl⟩
  have hcl2 : c2.length ≤ 25 := by rw [hc2]; exact RW.cutF_len m
  have hcs2 := hide (show RW.Shrt c2 by rw [hc2]; exact RW.cutF_short m)
  have hOf2 := hide (fun W u (h : FactsV W u c2) (hb : Below B w W) => of_any RW.k0F ks hksH.out u c2 (by omega) W h (hKW.out W hb))
  obtain ⟨C2, hC2⟩ : ∃ C, C = RW.ofE RW.k0F [] c2 := ⟨_, rfl⟩
  have hOC2 := hide (show RW.OfC RW.k0F c2 C2 from hC2 ▸ RW.OfC.of RW.k0F _ c2 rfl (by omega))
  rw [← hc2] at hCut2
  rw [← hC2] at hOf2
  have hCl2 := hide (show C2.length ≤ 25 from Nat.le_trans hOC2.out.le hcl2)
  obtain ⟨va2, vc2, rfl, _, _⟩ := Iff.mp Iff.rfl hv2
  obtain ⟨vn2, hvn2⟩ : ∃ n, n = m.length := ⟨_, rfl⟩
  rw [← hvn2] at hCut2 ⊢
  clear hv2 hs2 hl2 hc2 hC2 hvn2
  have hCut3 := hide (fun W (h : Below B w W) => cut_any v3 k hl3 hs3 W (hv3.next (hB ▸ h)))
  obtain ⟨c3, hc3⟩ : ∃ c, c = RW.cutF k := ⟨_, rfl⟩
  have hcl3 : c3.length ≤ 25 := by rw [hc3]; exact RW.cutF_len k
  have hcs3 := hide (show RW.Shrt c3 by rw [hc3]; exact RW.cutF_short k)
  have hOf3 := hide (fun W u (h : FactsV W u c3) (hb : Below B w W) => of_any RW.k0F ks hksH.out u c3 (by omega) W h (hKW.out W hb))
  obtain ⟨C3, hC3⟩ : ∃ C, C = RW.ofE RW.k0F [] c3 := ⟨_, rfl⟩
  have hOC3 := hide (show RW.OfC RW.k0F c3 C3 from hC3 ▸ RW.OfC.of RW.k0F _ c3 rfl (by omega))
  rw [← hc3] at hCut3
  rw [← hC3] at hOf3
  have hCl3 := hide (show C3.length ≤ 25 from Nat.le_trans hOC3.out.le hcl3)
  obtain ⟨va3, vc3, rfl, _, _⟩ := Iff.mp Iff.rfl hv3
  obtain ⟨vn3, hvn3⟩ : ∃ n, n = k.length := ⟨_, rfl⟩
  rw [← hvn3] at hCut3 ⊢
  clear hv3 hs3 hl3 hc3 hC3 hvn3
  rw [← hB]
  clear hK hks hB
  -- what the unions hold
  obtain ⟨D1, hD1⟩ : ∃ D, D = RW.uniE C2 C1 := ⟨_, rfl⟩
  obtain ⟨D2, hD2⟩ : ∃ D, D = RW.uniE C3 D1 := ⟨_, rfl⟩
  obtain ⟨E1, hE1⟩ : ∃ D, D = RW.uniE C2 C3 := ⟨_, rfl⟩
  obtain ⟨E2, hE2⟩ : ∃ D, D = RW.uniE C1 E1 := ⟨_, rfl⟩
  obtain ⟨D3, hD3⟩ : ∃ D, D = RW.uniE C2 D2 := ⟨_, rfl⟩
  have oD1 := hide (show RW.OfC RW.k0F (c1 ++ c2) D1 from hD1 ▸ hOC1.out.uni hOC2.out)
  have oD2 := hide (show RW.OfC RW.k0F (c1 ++ c2 ++ c3) D2 from hD2 ▸ oD1.out.uni hOC3.out)
  have oE1 := hide (show RW.OfC RW.k0F (c3 ++ c2) E1 from hE1 ▸ hOC3.out.uni hOC2.out)
  have oE2 := hide (show RW.OfC RW.k0F (c3 ++ c2 ++ c1) E2 from hE2 ▸ oE1.out.uni hOC1.out)
  have oD3 := hide (show RW.OfC RW.k0F (c1 ++ c2 ++ c3 ++ c2) D3 from hD3 ▸ oD2.out.uni hOC2.out)
  have lD1 : D1.length ≤ 50 := by have := oD1.out.le; rw [List.length_append] at this; omega
  have lD2 : D2.length ≤ 75 := by have := oD2.out.le; rw [List.length_append, List.length_append] at this; omega
  have lE1 : E1.length ≤ 50 := by have := oE1.out.le; rw [List.length_append] at this; omega
  have lE2 : E2.length ≤ 75 := by have := oE2.out.le; rw [List.length_append, List.length_append] at this; omega
  have lD3 : D3.length ≤ 100 := by have := oD3.out.le; rw [List.length_append, List.length_append, List.length_append] at this; omega
  obtain ⟨all, hall⟩ : ∃ a, a = c1 ++ c2 ++ c3 := ⟨_, rfl⟩
  have hallL : all.length ≤ 75 := by rw [hall, List.length_append, List.length_append]; omega
  have hallS := hide (show RW.Shrt all by
    rw [hall]
    intro x hx
    rcases List.mem_append.1 hx with hx | hx
    · rcases List.mem_append.1 hx with hx | hx
      · exact hcs1.out x hx
      · exact hcs2.out x hx
    · exact hcs3.out x hx)
  obtain ⟨F, hF⟩ : ∃ F, F = RW.ofE RW.k0F [] all := ⟨_, rfl⟩
  have oF := hide (show RW.OfC RW.k0F all F from hF ▸ RW.OfC.of RW.k0F _ all rfl (by omega))
  have lF : F.length ≤ 75 := Nat.le_trans oF.out.le hallL
  have hOfA := hide (fun W u (h : FactsV W u all) (hb : Below B w W) => of_any RW.k0F ks hksH.out u all (by omega) W h (hKW.out W hb))
  rw [← hF] at hOfA
  have eq1 := hide (show ¬ RW.TwP RW.k0F all → D3 = E2 from fun ht => oD3.out.same oE2.out (fun x hx => by simp only [List.mem_append] at hx ⊢; rcases hx with ((h | h) | h) | h <;> simp [h]) (fun x hx => by simp only [List.mem_append] at hx ⊢; rcases hx with (h | h) | h <;> simp [h]) (fun ⟨x, hx, y, hy, hh⟩ => ht ⟨x, by rw [hall]; simp only [List.mem_append] at hx ⊢; rcases hx with ((h | h) | h) | h <;> simp [h], y, by rw [hall]; simp only [List.mem_append] at hy ⊢; rcases hy with ((h | h) | h) | h <;> simp [h], hh⟩))
  have eq2 := hide (show ¬ RW.TwP RW.k0F all → D3 = F from fun ht => oD3.out.same oF.out (fun x hx => by rw [hall]; simp only [List.mem_append] at hx ⊢; rcases hx with ((h | h) | h) | h <;> simp [h]) (fun x hx => by rw [hall] at hx; simp only [List.mem_append] at hx ⊢; rcases hx with (h | h) | h <;> simp [h]) (fun ⟨x, hx, y, hy, hh⟩ => ht ⟨x, by rw [hall]; simp only [List.mem_append] at hx ⊢; rcases hx with ((h | h) | h) | h <;> simp [h], y, by rw [hall]; simp only [List.mem_append] at hy ⊢; rcases hy with ((h | h) | h) | h <;> simp [h], hh⟩))
  -- the first one holds at least as many as each
  have key : ∀ {X Y : RW.Ents}, RW.AscE X → RW.AscE Y → (∀ z, (KM.get z X).isSome = true → (KM.get z Y).isSome = true) → X.length ≤ Y.length := fun {X Y} h1 h2 h => by
    have := RW.nodup_len (X.map (·.1)) (Y.map (·.1)) (RW.AscB.nodup (show RW.AscB (X.map (·.1)) from h1)) fun z hz => RW.get_isSome.1 (h z (RW.get_isSome.2 hz))
    rwa [List.length_map, List.length_map] at this
  have up : ∀ {X Y : RW.Ents} (z), RW.AscE X → RW.AscE Y → (KM.get z X).isSome = true ∨ (KM.get z Y).isSome = true → (KM.get z (RW.uniE X Y)).isSome = true := fun {X Y} z h1 h2 h => by
    rw [RW.get_uniE _ X (RW.AscB.nodup h1) h2]
    cases e : KM.get z X with
    | some _ => rfl
    | none => rw [e] at h; exact h.resolve_left (by simp)
  have g1 : C1.length ≤ D3.length := key hOC1.out.asc oD3.out.asc fun z hz => hD3 ▸ up z hOC2.out.asc oD2.out.asc (.inr (hD2 ▸ up z hOC3.out.asc oD1.out.asc (.inr (hD1 ▸ up z hOC2.out.asc hOC1.out.asc (.inr hz)))))
  have g2 : C2.length ≤ D3.length := key hOC2.out.asc oD3.out.asc fun z hz => hD3 ▸ up z hOC2.out.asc oD2.out.asc (.inl hz)
  have g3 : C3.length ≤ D3.length := key hOC3.out.asc oD3.out.asc fun z hz => hD3 ▸ up z hOC2.out.asc oD2.out.asc (.inr (hD2 ▸ up z hOC3.out.asc oD1.out.asc (.inl hz)))
  have u1 := hide (show RW.uniR C2 C1 = (0, D1) by rw [uniR_ok (by rw [← hD1]; omega), hD1])
  have u2 := hide (show RW.uniR C3 D1 = (0, D2) by rw [uniR_ok (by rw [← hD2]; omega), hD2])
  have u3 := hide (show RW.uniR C2 C3 = (0, E1) by rw [uniR_ok (by rw [← hE1]; omega), hE1])
  have u4 := hide (show RW.uniR C1 E1 = (0, E2) by rw [uniR_ok (by rw [← hE2]; omega), hE2])
  have u5 := hide (show RW.uniR C2 D2 = (0, D3) by rw [uniR_ok (by rw [← hD3]; omega), hD3])
  have hCL := hide (show C1.length ≤ 25 ∧ C2.length ≤ 25 ∧ C3.length ≤ 25 from ⟨hCl1.out, hCl2.out, hCl3.out⟩)
  have hG := hide (show C1.length ≤ D3.length ∧ C2.length ≤ D3.length ∧ C3.length ≤ D3.length from ⟨g1, g2, g3⟩)
  have hLs := hide (show D1.length ≤ 50 ∧ D2.length ≤ 75 ∧ E1.length ≤ 50 ∧ E2.length ≤ 75 ∧ D3.length ≤ 100 ∧ F.length ≤ 75 from ⟨lD1, lD2, lE1, lE2, lD3, lF⟩)
  have hallH := hide hall
  clear hD1 hD2 hD3 hE1 hE2 hall hF key up g1 g2 g3 lD1 lD2 lE1 lE2 lD3 lF hCl1 hCl2 hCl3
  go_enter Tryz.func7, Tryz.ntmps7
  go_upto_region 2 with (go_at_call 11; refine hSane.out.mono ?_; rintro e wS ⟨rfl, h⟩; have hBS := hide h; clear h)
  have hS0 := hBS
  go_upto_region 3 with (first
    | (go_at_call 12; refine (hCut1.out _ hBS.out).mono ?_; rintro e wC1 ⟨uC1, rfl, g1, g2⟩; have hC_1 := hide (And.intro g1.facts (And.intro (bel_cat hBS.out hBle.out g2) g2)); clear g1 g2)
    | (go_at_call 13; refine (hOf1.out _ _ hC_1.out.1 hC_1.out.2.1).mono ?_; rintro e wO1 ⟨s1, m1, rfl, g1, g2, g3, g4⟩; have hT1 := hide (And.intro g1 (bel_cat hC_1.out.2.1 hBle.out g4)); have hM1 := hide (And.intro g3 (Nat.le_trans (show w.heap.size ≤ wC1.heap.size from (hBH.out ▸ hC_1.out.2.1 : Below w.heap.size w wC1).size) g3)); have hZ1 := hide g1.lt.2; have hY1 := hide (And.intro hC_1.out.2.2.size g4.size); clear g1 g2 g3 g4))
  clear hC_1
  go_upto_region 4 with (first
    | (go_at_call 12; refine (hCut2.out _ hT1.out.2).mono ?_; rintro e wC2 ⟨uC2, rfl, g1, g2⟩; have hC_2 := hide (And.intro g1.facts (And.intro (bel_cat hT1.out.2 hBle.out g2) g2)); clear g1 g2)
    | (go_at_call 13; refine (hOf2.out _ _ hC_2.out.1 hC_2.out.2.1).mono ?_; rintro e wO2 ⟨s2, m2, rfl, g1, g2, g3, g4⟩; have hT2 := hide (And.intro ((hT1.out.1.next hC_2.out.2.2).next g4) (And.intro g1 (bel_cat hC_2.out.2.1 hBle.out g4))); have hM2 := hide (And.intro g3 (Nat.le_trans (show w.heap.size ≤ wC2.heap.size from (hBH.out ▸ hC_2.out.2.1 : Below w.heap.size w wC2).size) g3)); have hZ2 := hide g1.lt.2; have hY2 := hide (And.intro hC_2.out.2.2.size g4.size); clear g1 g2 g3 g4))
  clear hC_2
  go_upto_region 5 with (first
    | (go_at_call 12; refine (hCut3.out _ hT2.out.2.2).mono ?_; rintro e wC3 ⟨uC3, rfl, g1, g2⟩; have hC_3 := hide (And.intro g1.facts (And.intro (bel_cat hT2.out.2.2 hBle.out g2) g2)); clear g1 g2)
    | (go_at_call 13; refine (hOf3.out _ _ hC_3.out.1 hC_3.out.2.1).mono ?_; rintro e wO3 ⟨s3, m3, rfl, g1, g2, g3, g4⟩; have hT3 := hide (And.intro ((hT2.out.1.next hC_3.out.2.2).next g4) (And.intro ((hT2.out.2.1.next hC_3.out.2.2).next g4) (And.intro g1 (bel_cat hC_3.out.2.1 hBle.out g4)))); have hM3 := hide (And.intro g3 (Nat.le_trans (show w.heap.size ≤ wC3.heap.size from (hBH.out ▸ hC_3.out.2.1 : Below w.heap.size w wC3).size) g3)); have hZ3 := hide g1.lt.2; have hY3 := hide (And.intro hC_3.out.2.2.size g4.size); clear g1 g2 g3 g4))
  clear hC_3
  go_upto_region 6 with (first
    | (go_at_call 12; refine (hCut1.out _ hT3.out.2.2.2).mono ?_; rintro e wC4 ⟨uC4, rfl, g1, g2⟩; have hC_4 := hide (And.intro g1.facts (And.intro (bel_cat hT3.out.2.2.2 hBle.out g2) g2)); clear g1 g2)
    | (go_at_call 13; refine (hOf1.out _ _ hC_4.out.1 hC_4.out.2.1).mono ?_; rintro e wO4 ⟨s4, m4, rfl, g1, g2, g3, g4⟩; have hT4 := hide (And.intro ((hT3.out.1.next hC_4.out.2.2).next g4) (And.intro ((hT3.out.2.1.next hC_4.out.2.2).next g4) (And.intro ((hT3.out.2.2.1.next hC_4.out.2.2).next g4) (And.intro g1 (bel_cat hC_4.out.2.1 hBle.out g4))))); have hM4 := hide (And.intro g3 (Nat.le_trans (show w.heap.size ≤ wC4.heap.size from (hBH.out ▸ hC_4.out.2.1 : Below w.heap.size w wC4).size) g3)); have hZ4 := hide g1.lt.2; have hY4 := hide (And.intro hC_4.out.2.2.size g4.size); clear g1 g2 g3 g4))
  clear hC_4
  go_upto_region 7 with (first
    | (go_at_call 12; refine (hCut3.out _ hT4.out.2.2.2.2).mono ?_; rintro e wC5 ⟨uC5, rfl, g1, g2⟩; have hC_5 := hide (And.intro g1.facts (And.intro (bel_cat hT4.out.2.2.2.2 hBle.out g2) g2)); clear g1 g2)
    | (go_at_call 13; refine (hOf3.out _ _ hC_5.out.1 hC_5.out.2.1).mono ?_; rintro e wO5 ⟨s5, m5, rfl, g1, g2, g3, g4⟩; have hT5 := hide (And.intro ((hT4.out.1.next hC_5.out.2.2).next g4) (And.intro ((hT4.out.2.1.next hC_5.out.2.2).next g4) (And.intro ((hT4.out.2.2.1.next hC_5.out.2.2).next g4) (And.intro ((hT4.out.2.2.2.1.next hC_5.out.2.2).next g4) (And.intro g1 (bel_cat hC_5.out.2.1 hBle.out g4)))))); have hM5 := hide (And.intro g3 (Nat.le_trans (show w.heap.size ≤ wC5.heap.size from (hBH.out ▸ hC_5.out.2.1 : Below w.heap.size w wC5).size) g3)); have hZ5 := hide g1.lt.2; have hY5 := hide (And.intro hC_5.out.2.2.size g4.size); clear g1 g2 g3 g4))
  clear hC_5
  have lt1 : m1 < m2 := Nat.lt_of_lt_of_le hZ1.out (Nat.le_trans hY2.out.1 hM2.out.1)
  have lt2 : m2 < m3 := Nat.lt_of_lt_of_le hZ2.out (Nat.le_trans hY3.out.1 hM3.out.1)
  have lt3 : m3 < m4 := Nat.lt_of_lt_of_le hZ3.out (Nat.le_trans hY4.out.1 hM4.out.1)
  have lt4 : m4 < m5 := Nat.lt_of_lt_of_le hZ4.out (Nat.le_trans hY5.out.1 hM5.out.1)
  have hN := hide (show U5N B (s1, m1) (s2, m2) (s3, m3) (s4, m4) (s5, m5) from ⟨Nat.ne_of_lt (by show m1 < m4; omega), Nat.ne_of_lt (by show m2 < m4; omega), Nat.ne_of_lt (by show m3 < m4; omega), Nat.ne_of_lt (by show m1 < m5; omega), Nat.ne_of_lt (by show m2 < m5; omega), Nat.ne_of_lt (by show m3 < m5; omega), Nat.ne_of_lt (by show m4 < m5; omega), by rw [hBH.out]; exact hM4.out.2, by rw [hBH.out]; exact hM5.out.2⟩)
  have hne : m1 ≠ m4 ∧ m2 ≠ m4 ∧ m3 ≠ m4 ∧ m1 ≠ m5 ∧ m2 ≠ m5 ∧ m3 ≠ m5 ∧ m4 ≠ m5 := ⟨by omega, by omega, by omega, by omega, by omega, by omega, by omega⟩
  have hneH := hide hne
  have hU := hide (show U5 B w (s1, m1) (s2, m2) (s3, m3) (s4, m4) (s5, m5) C1 C2 C3 C1 C3 wO5 from ⟨hT5.out.1, hT5.out.2.1, hT5.out.2.2.1, hT5.out.2.2.2.1, hT5.out.2.2.2.2.1, hT5.out.2.2.2.2.2⟩)
  clear hT1 hT2 hT3 hT4 hT5 hM1 hM2 hM3 hM4 hM5 hZ1 hZ2 hZ3 hZ4 hZ5 hY1 hY2 hY3 hY4 hY5 lt1 lt2 lt3 lt4 hne hS0
  have hUn1 := hide (sunion_any s4 m4 s2 m2 C1 C2 _ hU.out.d hU.out.b hneH.out.2.1.symm (by have := hCL.out; have := hLs.out; omega) (by have := hCL.out; omega))
  rw [u1.out] at hUn1
  go_upto_region 8 with (go_at_call 22; refine hUn1.out.mono ?_; rintro e wU1 ⟨rfl, g1, g2⟩; have hU1 := hide (hU.out.chD hN.out hBle.out g1 g2); clear g1 g2)
  clear hUn1 hU
  have hUn2 := hide (sunion_any s4 m4 s3 m3 D1 C3 _ hU1.out.d hU1.out.c hneH.out.2.2.1.symm (by have := hCL.out; have := hLs.out; omega) (by have := hCL.out; omega))
  rw [u2.out] at hUn2
  go_upto_region 9 with (go_at_call 22; refine hUn2.out.mono ?_; rintro e wU2 ⟨rfl, g1, g2⟩; have hU2 := hide (hU1.out.chD hN.out hBle.out g1 g2); clear g1 g2)
  clear hUn2 hU1
  have hUn3 := hide (sunion_any s5 m5 s2 m2 C3 C2 _ hU2.out.e hU2.out.b hneH.out.2.2.2.2.1.symm (by have := hCL.out; have := hLs.out; omega) (by have := hCL.out; omega))
  rw [u3.out] at hUn3
  go_upto_region 10 with (go_at_call 22; refine hUn3.out.mono ?_; rintro e wU3 ⟨rfl, g1, g2⟩; have hU3 := hide (hU2.out.chE hN.out hBle.out g1 g2); clear g1 g2)
  clear hUn3 hU2
  have hUn4 := hide (sunion_any s5 m5 s1 m1 E1 C1 _ hU3.out.e hU3.out.a hneH.out.2.2.2.1.symm (by have := hCL.out; have := hLs.out; omega) (by have := hCL.out; omega))
  rw [u4.out] at hUn4
  go_upto_region 11 with (go_at_call 22; refine hUn4.out.mono ?_; rintro e wU4 ⟨rfl, g1, g2⟩; have hU4 := hide (hU3.out.chE hN.out hBle.out g1 g2); clear g1 g2)
  clear hUn4 hU3
  have hUn5 := hide (sunion_any s4 m4 s2 m2 D2 C2 _ hU4.out.d hU4.out.b hneH.out.2.1.symm (by have := hCL.out; have := hLs.out; omega) (by have := hCL.out; omega))
  rw [u5.out] at hUn5
  go_upto_region 12 with (go_at_call 22; refine hUn5.out.mono ?_; rintro e wU5 ⟨rfl, g1, g2⟩; have hU5 := hide (hU4.out.chD hN.out hBle.out g1 g2); clear g1 g2)
  clear hUn5 hU4
  have tok1 : True := trivial
  have tok2 : True := trivial
  have hB50 := hide (Below.refl wU5.heap.size wU5)
  go_upto_region 13 with (first
    | (go_at_call 12; have _t := tok1; refine (hCut1.out _ hU5.out.bel).mono ?_; rintro e wD1 ⟨uD1, rfl, g1, g2⟩; have hD1 := hide (And.intro g1 g2); clear g1 g2 tok1 _t)
    | (go_at_call 12; have _t := tok2; refine (hCut2.out _ (bel_cat hU5.out.bel hBle.out hD1.out.2)).mono ?_; rintro e wD2 ⟨uD2, rfl, g1, g2⟩; have hD2 := hide (And.intro (own_keep hD1.out.1 fun x hx => g2.block _ (own_blk hD1.out.1 hx).2.1) (And.intro g1.facts (hD1.out.2.trans (g2.mono hD1.out.2.size)))); clear g1 g2 tok2 _t)
    | (at_builtin; obtain ⟨vA, WA, hrun, g1, g2, _⟩ := app_factsF hD2.out.1 hD2.out.2.2.size hD2.out.2.1 (by omega) 22; refine wpList_app_run rfl (.tmp 53) (.tmp 55) rfl rfl rfl hrun ?_; have hD3 := hide (And.intro g1 (hD2.out.2.2.trans g2)); clear g1 g2 hrun)
    | (go_at_call 12; refine (hCut3.out _ (bel_cat hU5.out.bel hBle.out hD3.out.2)).mono ?_; rintro e wD4 ⟨uD4, rfl, g1, g2⟩; have hD4 := hide (And.intro (own_keep hD3.out.1 fun x hx => g2.block _ (own_blk hD3.out.1 hx).2.1) (And.intro g1.facts (hD3.out.2.trans (g2.mono hD3.out.2.size)))); clear g1 g2)
    | (at_builtin; obtain ⟨vB, WB, hrun, g1, g2, _⟩ := app_factsF hD4.out.1 hD4.out.2.2.size hD4.out.2.1 (by rw [List.length_append]; omega) 22; refine wpList_app_run rfl (.tmp 56) (.tmp 58) rfl rfl rfl hrun ?_; have hD5 := hide (And.intro (OwnF.facts g1) (hD4.out.2.2.trans g2)); clear g1 g2 hrun))
  have hV := hide (show U5 B w (s1, m1) (s2, m2) (s3, m3) (s4, m4) (s5, m5) C1 C2 C3 D3 E2 WB ∧ FactsV WB vB all from ⟨hU5.out.next hBle.out hD5.out.2, by rw [hallH.out]; exact hD5.out.1⟩)
  clear hD1 hD2 hD3 hD4 hD5 hU5 hB50
  go_upto_region 14 with (go_at_call 13; refine (hOfA.out _ _ hV.out.2 hV.out.1.bel).mono ?_; rintro e wO6 ⟨s6, m6, rfl, g1, g2, g3, g4⟩; have hJ0 := hide (And.intro (hV.out.1.next hBle.out g4) (And.intro g1 (hV.out.2.next g4))); clear g1 g2 g3 g4)
  have hSm1 := hide (fun W (h : U5 B w (s1, m1) (s2, m2) (s3, m3) (s4, m4) (s5, m5) C1 C2 C3 D3 E2 W) => same_any RW.k0F ks hksH.out s4 m4 s5 m5 D3 E2 W h.d h.e (by have := hLs.out; omega) (by have := hLs.out; omega) oD3.out.keyle oE2.out.keyle (hKW.out W h.bel))
  have hSm2 := hide (fun W (h : U5 B w (s1, m1) (s2, m2) (s3, m3) (s4, m4) (s5, m5) C1 C2 C3 D3 E2 W) (h6 : SetAt W s6 m6 F) => same_any RW.k0F ks hksH.out s4 m4 s6 m6 D3 F W h.d h6 (by have := hLs.out; omega) (by have := hLs.out; omega) oD3.out.keyle oF.out.keyle (hKW.out W h.bel))
  have hSm3 := hide (fun W s m (h : U5 B w (s1, m1) (s2, m2) (s3, m3) (s4, m4) (s5, m5) C1 C2 C3 D3 E2 W) (h6 : SetAt W s m C2) => same_any RW.k0F ks hksH.out s2 m2 s m C2 C2 W h.b h6 (by have := hCL.out; omega) (by have := hCL.out; omega) hOC2.out.keyle hOC2.out.keyle (hKW.out W h.bel))
  have hTw := hide (fun W (h : FactsV W vB all) => twins_any vB all (by omega) hallS.out W h)
  have tokS : True := trivial
  go_upto_region 15 with (first
    | (go_at_call 39; have _t := tokS; refine (hSm1.out _ hJ0.out.1).mono ?_; rintro e wE1 ⟨⟨b1, rfl, hb⟩, g⟩; have hb1 := hide hb; have hJ1 := hide (And.intro (hJ0.out.1.next hBle.out g) (And.intro (hJ0.out.2.1.next g) (hJ0.out.2.2.next g))); clear g hb tokS _t; cases b1)
    | (go_at_call 39; refine (hSm2.out _ hJ1.out.1 hJ1.out.2.1).mono ?_; rintro e wE2 ⟨⟨b2, rfl, hb⟩, g⟩; have hb2 := hide hb; have hJ2 := hide (And.intro (hJ1.out.1.next hBle.out g) (And.intro (hJ1.out.2.1.next g) (hJ1.out.2.2.next g))); clear g hb; cases b2)
    | (go_at_call 40; refine (hTw.out _ hJ2.out.2.2).mono ?_; rintro e wE3 ⟨⟨b3, rfl, hb⟩, g⟩; have hJ3 := hide (And.intro (hJ2.out.1.next hBle.out g) (And.intro (hJ2.out.2.1.next g) (hJ2.out.2.2.next g))); have hb3 : b3 = true := hb (Classical.byContradiction fun ht => absurd (hb2.out (eq2.out ht)) (by simp)); subst hb3; clear g hb)
    | (go_at_call 40; refine (hTw.out _ hJ1.out.2.2).mono ?_; rintro e wE3 ⟨⟨b3, rfl, hb⟩, g⟩; have hJ3 := hide (And.intro (hJ1.out.1.next hBle.out g) (And.intro (hJ1.out.2.1.next g) (hJ1.out.2.2.next g))); have hb3 : b3 = true := hb (Classical.byContradiction fun ht => absurd (hb1.out (eq1.out ht)) (by simp)); subst hb3; clear g hb))
  all_goals (first | (have hK := hJ3; clear hJ3) | (have hK := hJ2; clear hJ2))
  all_goals (
    have hL4 := hide (fun W (h : U5 B w (s1, m1) (s2, m2) (s3, m3) (s4, m4) (s5, m5) C1 C2 C3 D3 E2 W) => slen_any s4 m4 D3 W h.d)
    have hL1 := hide (fun W (h : U5 B w (s1, m1) (s2, m2) (s3, m3) (s4, m4) (s5, m5) C1 C2 C3 D3 E2 W) => slen_any s1 m1 C1 W h.a)
    have hL2 := hide (fun W (h : U5 B w (s1, m1) (s2, m2) (s3, m3) (s4, m4) (s5, m5) C1 C2 C3 D3 E2 W) => slen_any s2 m2 C2 W h.b)
    have hL3 := hide (fun W (h : U5 B w (s1, m1) (s2, m2) (s3, m3) (s4, m4) (s5, m5) C1 C2 C3 D3 E2 W) => slen_any s3 m3 C3 W h.c)
    obtain ⟨n4, hn4⟩ : ∃ n, n = D3.length := ⟨_, rfl⟩
    obtain ⟨n1, hn1⟩ : ∃ n, n = C1.length := ⟨_, rfl⟩
    obtain ⟨n2, hn2⟩ : ∃ n, n = C2.length := ⟨_, rfl⟩
    obtain ⟨n3, hn3⟩ : ∃ n, n = C3.length := ⟨_, rfl⟩
    have hg := hG.out
    rw [← hn4, ← hn1, ← hn2, ← hn3] at hg
    rw [← hn4] at hL4
    rw [← hn1] at hL1
    rw [← hn2] at hL2
    rw [← hn3] at hL3
    have hmx1 : max (max (n1 : Int) (n2 : Int)) (n3 : Int) ≤ (n4 : Int) := by omega
    have hmx2 : max (n1 : Int) (max (n2 : Int) (n3 : Int)) ≤ (n4 : Int) := by omega
    have tokA : True := trivial
    have tokB : True := trivial
    have tokC : True := trivial
    clear hn4 hn1 hn2 hn3 hSm1 hSm2 hTw
    go_wp2_with (first
      | (go_at_call 12; refine (hCut2.out _ hK.out.1.bel).mono ?_; rintro e wF1 ⟨uF1, rfl, g1, g2⟩; have hF1 := hide (And.intro g1.facts (hK.out.1.next hBle.out g2)); clear g1 g2)
      | (go_at_call 13; refine (hOf2.out _ _ hF1.out.1 hF1.out.2.bel).mono ?_; rintro e wF2 ⟨s7, m7, rfl, g1, g2, g3, g4⟩; have hF2 := hide (And.intro g1 (hF1.out.2.next hBle.out g4)); clear g1 g2 g3 g4)
      | (go_at_call 39; refine (hSm3.out _ s7 m7 hF2.out.2 hF2.out.1).mono ?_; rintro e wF3 ⟨⟨b, rfl, hb⟩, g⟩; have hF3 := hide (hF2.out.2.next hBle.out g); have hbt := hb (by trivial); subst hbt; clear g hb)
      | (go_at_call 23; have _t := tokA; refine (hL4.out _ hF3.out).mono ?_; rintro e wL ⟨rfl, h⟩; obtain rfl := h.symm; clear tokA _t)
      | (go_at_call 23; have _t := tokB; refine (hL1.out _ hF3.out).mono ?_; rintro e wL ⟨rfl, h⟩; obtain rfl := h.symm; clear tokB _t)
      | (go_at_call 23; have _t := tokC; refine (hL2.out _ hF3.out).mono ?_; rintro e wL ⟨rfl, h⟩; obtain rfl := h.symm; clear tokC _t)
      | (go_at_call 23; refine (hL3.out _ hF3.out).mono ?_; rintro e wL ⟨rfl, h⟩; obtain rfl := h.symm))
    all_goals (go_ret; exact ⟨by simp, hF3.out.bel⟩))
end Go.Proofs.YtnlphbfjeekooaaGreatDoor

/-
  Package royaltylaw12: SplitFurther: it returns true; only new memory is written.
-/
import Derived.Test.YtnkdpfkmellpcaaSp15
namespace Go.Proofs.Ytnkdpfkmellpcaa
open Go.RowKit
attribute [local go_sem ↓] ldRow_fact
theorem below_dr {B : Nat} {a w : World} {n : Nat} (h : Below B a w) : Below B a (w.drewN n) := ⟨h.os, h.tape, h.output, h.size, h.block⟩
theorem fur_next {B : Nat} {w W W' : World} {X : Array Value} {vc va vd : Value} {cl : List RW.Pt} {ba bc : Nat} {R R' : RW.Sh}
    (h : Below B w W ∧ W.heap[B]? = some (.cells X 43 (0, 0)) ∧ PartsV W vc cl ∧ ShAt W ba va R ∧ ShAt W bc vd R') (hB : Below W.heap.size W W') :
    Below B w W' ∧ W'.heap[B]? = some (.cells X 43 (0, 0)) ∧ PartsV W' vc cl ∧ ShAt W' ba va R ∧ ShAt W' bc vd R' := by
  have hlt := (Array.getElem?_eq_some_iff.1 h.2.1).1
  exact ⟨h.1.trans (hB.mono (Nat.le_of_lt hlt)), (hB.block _ hlt).trans h.2.1, h.2.2.1.next hB, h.2.2.2.1.next hB, h.2.2.2.2.next hB⟩
theorem bcl_put (v u : Value) : (RW.bcl v).setIfInBounds 2 u = RW.bcl u := rfl
set_option maxRecDepth 10000 in
theorem fold_fact (f : RW.Fc) : Array.foldl (fun (cs : Array Value) (x : Value × Nat) => cs.setIfInBounds x.snd x.fst) #[.int .i64 0, .int .i64 0, .int .i64 0, .int .i64 0, .int .i64 0, .int .i64 0, .int .i64 0, .int .i64 0, .int .i64 0, .int .i64 0, .int .i64 0, .int .i64 0, .int .i64 0, .int .i64 0, .int .i64 0, .int .i64 0, .int .i64 0, .string ⟨#[]⟩] (RW.fce f).toArray.zipIdx 0 (RW.fce f).toArray.size = (RW.fce f).toArray := by
  unfold RW.fce RW.fcl
  simp
set_option maxRecDepth 10000 in
set_option maxHeartbeats 8000000 in
theorem splitfurther_any (v : Value) (l : List RW.Fc) (f : RW.Fc) (r ro t p : Int) (hl : l.length ≤ 9223372036854775807) (w : World) (hv : FactsV w v l) :
    Calls Try.prog 6 #[v, .agg (RW.fce f).toArray, .int .i64 r, .int .i64 ro, .int .i64 t, .int .i64 p] w fun e w' => e = .returned (.bool true) ∧ Below w.heap.size w w' := by
  obtain ⟨L, hL⟩ : ∃ L, L = l.take 30 := ⟨_, rfl⟩
  have hLn : L.length ≤ 30 := by rw [hL, List.length_take]; omega
  have hS := hide (fun W => sane_any W)
  have hC := hide (fun W (h : FactsV W v l) => cut_any v l hl W h)
  rw [← hL] at hC
  have hvH := hide hv
  obtain ⟨B, hBe⟩ : ∃ B, B = w.heap.size := ⟨_, rfl⟩
  obtain ⟨X, hX⟩ : ∃ X, X = (RW.fce f).toArray := ⟨_, rfl⟩
  have hXH := hide hX
  have hi0 : (Try.prog.info? 43).map (·.size) = some X.size := by rw [hX]; exact fact_size f
  have hr0 := hide (show (w.alloc (.cells X 43)).heap[B]? = some (.cells X 43 (0, 0)) from newAt hBe)
  have hA0 := hide (show Below B w (w.alloc (.cells X 43)) by rw [hBe]; exact (Below.refl _ w).alloc (Nat.le_refl _) _)
  rw [← hX]
  have hBeH := hide hBe
  clear hv hL hl hBe hX
  go_enter Try.func6, Try.ntmps6
  go_upto_region 1 with fail
  rw [← hBeH.out]
  refine gen_w (fun W => W.heap[B]? = some (.cells X 43 (0, 0)) ∧ Below B w W) ⟨hr0.out, hA0.out⟩ ?_
  clear hr0 hA0
  rintro w0 ⟨hx0, hB0⟩
  have hlt0 : B < w0.heap.size := (Array.getElem?_eq_some_iff.1 hx0).1
  have hx0H := hide hx0
  have hB0H := hide hB0
  have hlt0H := hide hlt0
  clear hx0 hB0 hlt0
  go_upto_region 2 with (go_at_call 11; refine (hS.out _).mono ?_; rintro e w1 ⟨rfl, hB1⟩; have hB1H := hide (hB0H.out.trans (hB1.mono (Nat.le_of_lt hlt0H.out))); have hx1H := hide ((hB1.block _ hlt0H.out).trans hx0H.out); have hz1H := hide (Nat.le_trans hlt0H.out hB1.size); clear hB1)
  go_upto_region 3 with (first
    | (go_at_call 12; refine (hC.out _ (hvH.out.next (hBeH.out ▸ hB1H.out))).mono ?_; rintro e w2 ⟨⟨v2, rfl, hO2⟩, hB2⟩; have hO2H := hide hO2; have hB2H := hide (hB1H.out.trans (hB2.mono (Nat.le_of_lt hz1H.out))); have hx2H := hide ((hB2.block _ hz1H.out).trans hx1H.out); have hz2H := hide (Nat.le_trans hz1H.out hB2.size); clear hO2 hB2)
    | (refine wpListStoreNew rfl 25 (.tmp 14) (.tmp 23) rfl (RW.bcl v2) rfl rfl 25 _ (base_size _) rfl (base_one _ hO2H.out.facts.one) ?_))
  obtain ⟨bb, hbb⟩ : ∃ b, b = w2.heap.size := ⟨_, rfl⟩
  have hA2 := (Below.refl w2.heap.size w2).alloc (Nat.le_refl _) (.cells (RW.bcl v2) 25)
  refine gen_w (fun W => W.heap[bb]? = some (.cells (RW.bcl v2) 25 (0, 0)) ∧ OwnF W (B + 1) v2 L ∧ Below B w W ∧ W.heap[B]? = some (.cells X 43 (0, 0)) ∧ B < bb ∧ ∀ k, v2.ownBlock = some k → B + 1 ≤ k ∧ k < bb) ⟨newAt hbb, own_next (own_base hO2H.out hz1H.out) hA2, hB2H.out.alloc (Nat.le_of_lt hz2H.out) _, (hA2.block _ hz2H.out).trans hx2H.out, by rw [hbb]; exact hz2H.out, fun k hk => by have := hO2H.out.lt k hk; have := hz1H.out; omega⟩ ?_
  rw [← hbb]
  clear hbb hA2 hO2H hB2H hx2H hz2H hB1H hx1H hz1H hB0H hx0H hlt0H hC hS hvH
  rintro w3 ⟨hb3, hO3, hB3, hx3, hBbb, hob⟩
  have hobH := hide hob
  clear hob
  have hO3H := hide hO3
  have hB3H := hide hB3
  have hx3H := hide hx3
  have hb3H := hide hb3
  have hBbbH := hide hBbb
  have hlt3 := hide (Array.getElem?_eq_some_iff.1 hb3).1
  have hib := base_size v2
  clear hO3 hB3 hx3 hBbb
  obtain ⟨cl, hcl⟩ : ∃ cl, cl = RW.claimsL r ro t p (L.map (·.1)) := ⟨_, rfl⟩
  have hclA := hide (show RW.Asc cl by rw [hcl]; exact RW.claims_asc _ _ _ _ _)
  have hclS := hide (show RW.Sound cl by rw [hcl]; exact RW.claims_sound _ _ _ _ _)
  have hcln := hide (show cl.length ≤ 30 by rw [hcl]; have := RW.claims_len r ro t p (L.map (·.1)); rw [List.length_map] at this; omega)
  have hCl := hide (fun W (h : FactsV W v2 L) => claims_any (RW.bcl v2) v2 L r ro t p rfl (by omega) W h)
  have hOf := hide (fun W (h : FactsV W v2 L) => of_any (RW.bcl v2) v2 L r ro t p rfl rfl (by omega) W h)
  rw [← hcl] at hCl hOf
  obtain ⟨R, hR⟩ : ∃ R, R = RW.resolve cl := ⟨_, rfl⟩
  rw [← hR] at hOf
  have hclH := hide hcl
  have hRH := hide hR
  clear hcl hR
  go_upto_region 4 with (first
    | (refine wpList_load_row rfl 25 (.tmp 14) rfl bb rfl 25 (RW.bcl v2) (0, 0) _ hb3 Try.underlying25 rfl hib ?_)
    | (go_at_call 14; refine (hCl.out _ hO3H.out.facts).mono ?_; rintro e w4 ⟨⟨vc, rfl, hvc⟩, hB4⟩; have hvcH := hide (own_base hvc (show bb + 1 ≤ _ from hlt3.out)); have hO4H := hide (own_next hO3H.out hB4); have hb4 := (hB4.block _ hlt3.out).trans hb3H.out; have hb4H := hide hb4; have hB4H := hide (hB3H.out.trans (hB4.mono (Nat.le_of_lt (Nat.lt_trans hBbbH.out hlt3.out)))); have hx4H := hide ((hB4.block _ (Nat.lt_trans hBbbH.out hlt3.out)).trans hx3H.out); have hlt4 := hide (Nat.lt_of_lt_of_le hlt3.out hB4.size); clear hvc hB4))
  clear hb3
  go_upto_region 5 with (first
    | (refine wpList_load_row rfl 25 (.tmp 14) rfl bb rfl 25 (RW.bcl v2) (0, 0) _ hb4 Try.underlying25 rfl hib ?_)
    | (go_at_call 17; refine (hOf.out _ (OwnF.facts hO4H.out)).mono ?_; rintro e w5 ⟨⟨va, rfl, hva⟩, hB5⟩; have hvaH := hide (own_base hva (show bb + 1 ≤ _ from hlt4.out)); have hvc5 := hide (own_next hvcH.out hB5); have hO5H := hide (own_next hO4H.out hB5); have hb5H := hide ((hB5.block _ hlt4.out).trans hb4H.out); have hB5H := hide (hB4H.out.trans (hB5.mono (Nat.le_of_lt (Nat.lt_trans hBbbH.out hlt4.out)))); have hx5H := hide ((hB5.block _ (Nat.lt_trans hBbbH.out hlt4.out)).trans hx4H.out); have hlt5 := hide (Nat.lt_of_lt_of_le hlt4.out hB5.size); clear hva hB5)
    | (refine wpListStoreNew rfl 32 (.tmp 16) (.tmp 35) rfl (RW.scl va R.2.1 R.2.2) rfl rfl 32 _ (shares_size _ _ _) rfl (shares_one _ _ _ (OwnP.parts hvaH.out).one) ?_))
  obtain ⟨ba, hba⟩ : ∃ b, b = w5.heap.size := ⟨_, rfl⟩
  have hA5 := (Below.refl w5.heap.size w5).alloc (Nat.le_refl _) (.cells (RW.scl va R.2.1 R.2.2) 32)
  refine gen_w (fun W => W.heap[bb]? = some (.cells (RW.bcl v2) 25 (0, 0)) ∧ OwnF W (B + 1) v2 L ∧ Below B w W ∧ W.heap[B]? = some (.cells X 43 (0, 0)) ∧ OwnP W (bb + 1) vc cl ∧ OwnP W (bb + 1) va R.1 ∧ W.heap[ba]? = some (.cells (RW.scl va R.2.1 R.2.2) 32 (0, 0)) ∧ bb < ba ∧ ba < W.heap.size) ⟨(hA5.block _ hlt5.out).trans hb5H.out, own_next hO5H.out hA5, hB5H.out.alloc (Nat.le_of_lt (Nat.lt_trans hBbbH.out hlt5.out)) _, (hA5.block _ (Nat.lt_trans hBbbH.out hlt5.out)).trans hx5H.out, own_next hvc5.out hA5, own_next hvaH.out hA5, newAt hba, by rw [hba]; exact hlt5.out, by simp; omega⟩ ?_
  rw [← hba]
  clear hba hA5 hb4 hvaH hvc5 hO5H hb5H hB5H hx5H hlt5 hvcH hO4H hb4H hB4H hx4H hlt4 hO3H hb3H hB3H hx3H hlt3 hCl hOf
  rintro w6 ⟨hb6, hO6, hB6, hx6, hc6, ha6, hs6, hba, hlt6⟩
  have hX := hXH.out
  have hXe : (rowCells RW.fce [f]).toArray = X := by rw [hX, rowCells, List.flatMap_cons, List.flatMap_nil, List.append_nil]
  have hfold := fold_fact f
  rw [← hX] at hfold
  have hXs : X.size = 18 := by rw [hX]; rfl
  rw [hXs] at hfold
  have hlit : FactsV (w6.alloc (.cells (rowCells RW.fce [f]).toArray 43)) (.slice (some ⟨w6.heap.size, 0, none⟩) 1 1) [f] := rows_lit w6 43 fcl_len [f]
  obtain ⟨v7, w7, hrun, hO7, hB7, hg7⟩ := app_facts (W := w6.alloc (.cells (rowCells RW.fce [f]).toArray 43)) (hO6.alloc _) (by have := hBbbH.out; simp; omega) hlit (by simp; omega) 22
  rw [hXe] at hrun hg7 hB7
  have hk6 : ∀ k, k < w6.heap.size → (∀ j, v2.ownBlock = some j → k ≠ j) → w7.heap[k]? = w6.heap[k]? := fun k hk hne => (hg7.block k (by simp; omega) (fun e => hne k e.symm rfl)).trans (Below.heap_alloc _ _ _ hk)
  have hc7 : OwnP w7 (bb + 1) vc cl := by
    refine ⟨hc6.1, hc6.2.imp id ?_⟩
    rintro ⟨g, cap, cur, h1, h2, h3, h4⟩
    exact ⟨g, cap, cur, h1, h2, (hk6 g (Array.getElem?_eq_some_iff.1 h3).1 (fun j hj => by have := (hobH.out j hj).2; omega)).trans h3, h4⟩
  have ha7 : OwnP w7 (bb + 1) va R.1 := by
    refine ⟨ha6.1, ha6.2.imp id ?_⟩
    rintro ⟨g, cap, cur, h1, h2, h3, h4⟩
    exact ⟨g, cap, cur, h1, h2, (hk6 g (Array.getElem?_eq_some_iff.1 h3).1 (fun j hj => by have := (hobH.out j hj).2; omega)).trans h3, h4⟩
  have hs7 := (hk6 ba hlt6 (fun j hj => by have := (hobH.out j hj).2; omega)).trans hs6
  have hb7 := (hk6 bb (by omega) (fun j hj => by have := (hobH.out j hj).2; omega)).trans hb6
  have hx7 := (hk6 B (by have := hBbbH.out; omega) (fun j hj => by have := (hobH.out j hj).1; omega)).trans hx6
  have hBw7 : Below B w w7 := hB6.trans (((Below.refl B w6).alloc (by have := hBbbH.out; omega) _).trans (hB7.mono (Nat.le_succ _)))
  have hsz7 : w6.heap.size < w7.heap.size := by have := hB7.size; simp at this; omega
  obtain ⟨a7, c7, hv7, _, _⟩ := hO7.facts
  obtain ⟨n7, hn7⟩ : ∃ n, n = (L ++ [f]).length := ⟨_, rfl⟩
  rw [← hn7] at hv7
  obtain ⟨a2, c2, hv2, _, _⟩ := hO6.facts
  obtain ⟨n2, hn2⟩ : ∃ n, n = L.length := ⟨_, rfl⟩
  rw [← hn2] at hv2
  have hcb2 : w6.cell? ⟨bb, 2, none⟩ = some v2 := (cellAt hb6 2).trans rfl
  have hcb7 : w7.cell? ⟨bb, 2, none⟩ = some v2 := (cellAt hb7 2).trans rfl
  have hfb7 : w7.frozen? ⟨bb, 2, none⟩ = false := by simp [World.frozen?, hb7]
  have hld := fact_ld (x := f) (W := w6) (g := B) (by rw [← hX]; exact hx6)
  rw [← hX] at hld
  subst hv7 hv2
  have hb7H := hide hb7
  have hc7H := hide hc7
  have ha7H := hide ha7
  have hs7H := hide hs7
  have hx7H := hide hx7
  have hO7H := hide hO7
  have hBw7H := hide hBw7
  have hsz7H := hide (Nat.lt_of_le_of_lt (Nat.le_of_lt hlt6) hsz7)
  have hbaH := hide hba
  clear hb7 hc7 ha7 hs7 hx7 hO7 hBw7 hB7 hg7 hk6 hc6 ha6 hs6 hx6 hO6 hB6 hb6 hn7 hn2 hsz7 hlt6 hba hX hXe hlit
  go_upto_region 6 with (at_builtin; refine wpList_app_run rfl (.tmp 37) (.tmp 39) rfl rfl rfl hrun ?_)
  refine gen_w (fun W => W.heap[bb]? = some (.cells (RW.bcl (.slice a7 n7 c7)) 25 (0, 0)) ∧ FactsV W (.slice a7 n7 c7) (L ++ [f]) ∧ Below B w W ∧ W.heap[B]? = some (.cells X 43 (0, 0)) ∧ PartsV W vc cl ∧ ShAt W ba va R ∧ bb < W.heap.size ∧ B < W.heap.size) ?_ ?_
  · have hne : ∀ g, g ≠ bb → (w7.setCell ⟨bb, 2, none⟩ (.slice a7 n7 c7)).heap[g]? = w7.heap[g]? := fun g hg => Below.heap_setCell _ _ _ _ hg
    have own8 : ∀ {b : Nat} {k n : Nat} {v : Value} {xs : List Value} {e : TypeId}, e ≠ 25 → w7.ownsRow b e k v n xs → (w7.setCell ⟨bb, 2, none⟩ (.slice a7 n7 c7)).ownsRow b e k v n xs := by
      intro b k n v xs e he h
      refine ⟨h.1, h.2.imp id ?_⟩
      rintro ⟨g, cap, cur, h1, h2, h3, h4⟩
      refine ⟨g, cap, cur, h1, h2, (hne g ?_).trans h3, h4⟩
      rintro rfl
      rw [hb7H.out] at h3
      cases h3
      exact he rfl
    have hlt : bb < w7.heap.size := (Array.getElem?_eq_some_iff.1 hb7H.out).1
    refine ⟨heap_setCell_same _ _ _ _ _ _ hb7H.out, OwnF.facts (own8 (by decide) hO7H.out), hBw7H.out.setCell (p := ⟨bb, 2, none⟩) (Nat.le_of_lt hBbbH.out) _, (hne B (by have := hBbbH.out; omega)).trans hx7H.out, OwnP.parts (own8 (by decide) hc7H.out), ⟨(hne ba (by have := hbaH.out; omega)).trans hs7H.out, OwnP.parts (own8 (by decide) ha7H.out)⟩, by simpa [World.setCell] using hlt, by have := hBbbH.out; simp [World.setCell]; omega⟩
  clear hb7H hc7H ha7H hs7H hx7H hO7H hBw7H hcb2 hcb7 hfb7 hld hrun hfold hXs
  rintro w8 ⟨hb8, hf8, hB8, hx8, hp8, ha8, hlt8, hlB8⟩
  have hf8H := hide hf8
  have hB8H := hide hB8
  have hx8H := hide hx8
  have hp8H := hide hp8
  have ha8H := hide ha8
  have hlB8H := hide hlB8
  clear hf8 hB8 hx8 hp8 ha8 hlB8
  have hib7 := base_size (.slice a7 n7 c7)
  have hOf2 := hide (of_any (RW.bcl (.slice a7 n7 c7)) (.slice a7 n7 c7) (L ++ [f]) r ro t p rfl rfl (by simp; omega) w8 hf8H.out)
  obtain ⟨R', hR'⟩ : ∃ R', R' = RW.resolve (RW.claimsL r ro t p ((L ++ [f]).map (·.1))) := ⟨_, rfl⟩
  rw [← hR'] at hOf2
  have hR'H := hide hR'
  clear hR'
  go_upto_region 7 with (first
    | (refine wpList_load_row rfl 25 (.tmp 14) rfl bb rfl 25 (RW.bcl (.slice a7 n7 c7)) (0, 0) _ hb8 Try.underlying25 rfl hib7 ?_)
    | (go_at_call 17; refine Calls.mono hOf2.out ?_; rintro e w9 ⟨⟨vd, rfl, hvd⟩, hB9⟩; have hvdH := hide hvd.parts; have hp9 := hide (hp8H.out.next hB9); have ha9 := hide (ha8H.out.next hB9); have hB9H := hide (hB8H.out.trans (hB9.mono (Nat.le_of_lt hlB8H.out))); have hx9 := hide ((hB9.block _ hlB8H.out).trans hx8H.out); have hlB9 := hide (Nat.lt_of_lt_of_le hlB8H.out hB9.size); clear hvd hB9)
    | (refine wpListStoreNew rfl 32 (.tmp 17) (.tmp 47) rfl (RW.scl vd R'.2.1 R'.2.2) rfl rfl 32 _ (shares_size _ _ _) rfl (shares_one _ _ _ hvdH.out.one) ?_))
  obtain ⟨bc, hbc⟩ : ∃ b, b = w9.heap.size := ⟨_, rfl⟩
  have hA9 := (Below.refl w9.heap.size w9).alloc (Nat.le_refl _) (.cells (RW.scl vd R'.2.1 R'.2.2) 32)
  refine gen_w (fun W => Below B w W ∧ W.heap[B]? = some (.cells X 43 (0, 0)) ∧ PartsV W vc cl ∧ ShAt W ba va R ∧ ShAt W bc vd R') ⟨hB9H.out.alloc (Nat.le_of_lt hlB9.out) _, (hA9.block _ hlB9.out).trans hx9.out, hp9.out.next hA9, ha9.out.next hA9, by rw [hbc]; exact ShAt.new hvdH.out⟩ ?_
  rw [← hbc]
  clear hbc hA9 hvdH hp9 ha9 hB9H hx9 hlB9 hOf2 hb8 hf8H hB8H hx8H hp8H ha8H hlB8H hlt8
  rintro W ⟨hBW, hxW, hpW, haW, hcW⟩
  obtain ⟨aa, caa, hva, hna, haat⟩ := haW.parts
  obtain ⟨ad, cad, hvd, hnd, hdat⟩ := hcW.parts
  obtain ⟨na, hnae⟩ : ∃ n, n = R.1.length := ⟨_, rfl⟩
  obtain ⟨nd, hnde⟩ : ∃ n, n = R'.1.length := ⟨_, rfl⟩
  rw [← hnae] at hva hna
  rw [← hnde] at hvd hnd
  have hna1 : na ≤ 30 := by rw [hnae, hRH.out]; exact Nat.le_trans (RW.resolve_len cl) hcln.out
  have hnd1 : nd ≤ 31 := by
    rw [hnde, hR'H.out]
    refine Nat.le_trans (RW.resolve_len _) (Nat.le_trans (RW.claims_len ..) ?_)
    simp
    omega
  have hRS := hide (show RW.Sound R.1 by rw [hRH.out]; exact RW.resolve_sound cl)
  have hle := hide (fun x (hx : x ∈ R.1) => show x.2 ≤ RW.shareOf x.1 cl by rw [hRH.out] at hx; exact RW.part_le hclA.out hclS.out hx)
  have hfu := RW.further (r := r) (ro := ro) (t := t) (p := p) (fs := L.map (·.1)) (f := f.1)
  rw [show L.map (·.1) ++ [f.1] = (L ++ [f]).map (·.1) by simp, ← hR'H.out, ← hclH.out, ← hRH.out] at hfu
  have hfu1 := hide hfu.1
  have hfu2 := hfu.2
  have hX9 : X[9]? = some (.int .i64 (f.1 9)) := by rw [hXH.out]; exact fc_get f.1 f.2 9 (by decide)
  have hSt := hide (show Below B w W ∧ W.heap[B]? = some (.cells X 43 (0, 0)) ∧ PartsV W vc cl ∧ ShAt W ba va R ∧ ShAt W bc vd R' from ⟨hBW, hxW, hpW, haW, hcW⟩)
  have hsh := hide (fun (W' : World) (h : PartsV W' vc cl) (z : Int) => share_any vc cl z hclS.out (Nat.le_trans hcln.out (by decide)) W' h)
  have hsh2 := hide (fun (W' : World) (h : PartsV W' va R.1) (z : Int) => share_any va R.1 z hRS.out (by rw [← hnae]; omega) W' h)
  subst hva hvd
  have hnaH := hide hnae
  have hndH := hide hnde
  have haatH := hide haat
  have hdatH := hide hdat
  have hX9H := hide hX9
  clear hBW hxW hpW haW hcW hfu hnae hnde haat hdat hX9
  go_wp2
  go_loopw [18] (fun i wr => ∃ j : Nat, i = .int .i64 j ∧ j ≤ na ∧ Hid (Below B w wr ∧ wr.heap[B]? = some (.cells X 43 (0, 0)) ∧ PartsV wr vc cl ∧ ShAt wr ba (.slice aa na caa) R ∧ ShAt wr bc (.slice ad nd cad) R')) (fun i _ => na - (intOf i).toNat)
  case atStart => exact ⟨0, rfl, Nat.zero_le _, hSt.out⟩
  case round =>
    clear hSt
    obtain ⟨j, rfl, hjn, hP⟩ := hrel
    have c0 : wr.cell? ⟨ba, 0, none⟩ = some (.slice aa na caa) := (cellAt hP.out.2.2.2.1.row 0).trans rfl
    by_cases hlt : j < na
    · obtain ⟨x, hx⟩ : ∃ x, R.1[j]? = some x := ⟨_, List.getElem?_eq_getElem (by rw [← hnaH.out]; exact hlt)⟩
      obtain ⟨b, o, hab, hb, hc⟩ : ∃ b o, aa = some ⟨b, o, none⟩ ∧ b < wr.heap.size ∧ ∀ i x, R.1[i]? = some x → wr.rangeAt b (o + i * 2) (RW.pcl x) := by
        obtain ⟨a', c', he, _, hat⟩ := hP.out.2.2.2.1.parts
        injection he with e1 e2 e3
        obtain ⟨b, o, hab, hb, hc⟩ := hat.resolve_left (by intro h0; rw [h0] at hx; simp at hx)
        exact ⟨b, o, e1.trans hab, hb, hc⟩
      subst hab
      have k0 : wr.cell? ⟨b, o + j * 2, none⟩ = some (.int .i64 x.1) := part_c0 (hc j x hx)
      have k1 : wr.cell? ⟨b, o + j * 2 + 1, none⟩ = some (.int .i64 x.2) := part_c1 (hc j x hx)
      have hlex := hle.out x (List.mem_of_getElem? hx)
      have hshx := hide (fun n => (hsh.out (wr.drewN n) hP.out.2.2.1 x.1).mono (R' := fun e w' => e = .returned (.int .i64 (RW.shareOf x.1 cl)) ∧ ∃ m, w' = wr.drewN m) (by rintro e w' ⟨rfl, rfl⟩; exact ⟨rfl, n, rfl⟩))
      obtain ⟨s, hs⟩ : ∃ s, s = RW.shareOf x.1 cl := ⟨_, rfl⟩
      rw [← hs] at hlex hshx
      have hgt : ¬ s < x.2 := by omega
      clear hb hc hx hs
      go_wp2
      go_quiet (exact hshx.out _)
      go_wp2
      go_roundw
      case rel => exact ⟨j + 1, by go_num, by omega, fur_next hP.out (below_dr (Below.refl _ _))⟩
      case measure => simp [intOf]; omega
    · obtain ⟨j', hj'⟩ : ∃ n, n = na := ⟨_, rfl⟩
      obtain rfl : j = na := by omega
      subst hj'
      go_wp2
      go_loopw [19] (fun i wr => ∃ j : Nat, i = .int .i64 j ∧ j ≤ nd ∧ Hid (Below B w wr ∧ wr.heap[B]? = some (.cells X 43 (0, 0)) ∧ PartsV wr vc cl ∧ ShAt wr ba (.slice aa j' caa) R ∧ ShAt wr bc (.slice ad nd cad) R')) (fun i _ => nd - (intOf i).toNat)
      case atStart => exact ⟨0, rfl, Nat.zero_le _, hP.out⟩
      case round =>
        clear hP c0
        obtain ⟨m, rfl, hmn, hP⟩ := hrel
        have c0 : wr.cell? ⟨ba, 0, none⟩ = some (.slice aa j' caa) := (cellAt hP.out.2.2.2.1.row 0).trans rfl
        have d0 : wr.cell? ⟨bc, 0, none⟩ = some (.slice ad nd cad) := (cellAt hP.out.2.2.2.2.row 0).trans rfl
        have c2 : wr.cell? ⟨ba, 2, none⟩ = some (.int .i64 R.2.2) := (cellAt hP.out.2.2.2.1.row 2).trans rfl
        have d2 : wr.cell? ⟨bc, 2, none⟩ = some (.int .i64 R'.2.2) := (cellAt hP.out.2.2.2.2.row 2).trans rfl
        have x9 : wr.cell? ⟨B, 9, none⟩ = some (.int .i64 (f.1 9)) := (cellAt hP.out.2.1 9).trans hX9H.out
        by_cases hlt2 : m < nd
        · obtain ⟨x, hx⟩ : ∃ x, R'.1[m]? = some x := ⟨_, List.getElem?_eq_getElem (by rw [← hndH.out]; exact hlt2)⟩
          obtain ⟨b, o, hab, hb, hc⟩ : ∃ b o, ad = some ⟨b, o, none⟩ ∧ b < wr.heap.size ∧ ∀ i x, R'.1[i]? = some x → wr.rangeAt b (o + i * 2) (RW.pcl x) := by
            obtain ⟨a', c', he, _, hat⟩ := hP.out.2.2.2.2.parts
            injection he with e1 e2 e3
            obtain ⟨b, o, hab, hb, hc⟩ := hat.resolve_left (by intro h0; rw [h0] at hx; simp at hx)
            exact ⟨b, o, e1.trans hab, hb, hc⟩
          subst hab
          have k0 : wr.cell? ⟨b, o + m * 2, none⟩ = some (.int .i64 x.1) := part_c0 (hc m x hx)
          have k1 : wr.cell? ⟨b, o + m * 2 + 1, none⟩ = some (.int .i64 x.2) := part_c1 (hc m x hx)
          have hlex := hfu1.out x (List.mem_of_getElem? hx)
          have hshx := hide (fun n => (hsh2.out (wr.drewN n) hP.out.2.2.2.1.parts x.1).mono (R' := fun e w' => e = .returned (.int .i64 (RW.shareOf x.1 R.1)) ∧ ∃ m, w' = wr.drewN m) (by rintro e w' ⟨rfl, rfl⟩; exact ⟨rfl, n, rfl⟩))
          obtain ⟨s, hs⟩ : ∃ s, s = RW.shareOf x.1 R.1 := ⟨_, rfl⟩
          rw [← hs] at hlex hshx
          clear hb hc hx hs hfu2
          by_cases hne : x.1 = f.1 9
          · have hne' : (x.1 != f.1 9) = false := by simp [hne]
            clear hne hlex
            go_wp2
            go_quiet (fail)
            go_wp2
            go_roundw
            case rel => exact ⟨m + 1, by go_num, by omega, fur_next hP.out (below_dr (Below.refl _ _))⟩
            case measure => simp [intOf]; omega
          · have hne' : (x.1 != f.1 9) = true := by simp [hne]
            have hgt : ¬ s < x.2 := by have := hlex hne; omega
            clear hne hlex
            go_wp2
            go_quiet (exact hshx.out _)
            go_wp2
            go_roundw
            case rel => exact ⟨m + 1, by go_num, by omega, fur_next hP.out (below_dr (Below.refl _ _))⟩
            case measure => simp [intOf]; omega
        · obtain rfl : m = nd := by omega
          have hB := hide hP.out.1
          go_wp2
          go_ret
          exact ⟨rfl, hBeH.out ▸ hB.out⟩
end Go.Proofs.Ytnkdpfkmellpcaa

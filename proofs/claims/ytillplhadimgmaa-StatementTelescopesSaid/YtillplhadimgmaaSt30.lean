/-
  Package royaltylaw19: StatementTelescopes: it returns true; only new memory is written.
-/
import Derived.Test.YtillplhadimgmaaSt29
namespace Go.Proofs.Ytillplhadimgmaa
open Go.RowKit RG
/-- a list of lists of triples -/
def TlV (W : World) (v : Value) (ls : List (List RW.Ln)) : Prop := ∃ vs : List Value, RowV 1 (fun u => [u]) W v vs ∧ vs.length = ls.length ∧ ∀ (i : Nat) (u : Value) (l : List RW.Ln), vs[i]? = some u → ls[i]? = some l → LnsV W u l
theorem TlV.get {W : World} {v : Value} {ls : List (List RW.Ln)} (h : TlV W v ls) : ∃ a c, v = .slice a ls.length c ∧ ∀ (j : Nat) (l : List RW.Ln), ls[j]? = some l → ∃ b o u, a = some ⟨b, o, none⟩ ∧ b < W.heap.size ∧ W.cell? ⟨b, o + j, none⟩ = some u ∧ LnsV W u l := by
  obtain ⟨vs, ⟨a, c, rfl, _, hr⟩, hl, he⟩ := h
  refine ⟨a, c, by rw [hl], fun j l hj => ?_⟩
  have hjl := (List.getElem?_eq_some_iff.1 hj).1
  obtain ⟨u, hu⟩ : ∃ u, vs[j]? = some u := ⟨_, List.getElem?_eq_getElem (by rw [hl]; exact hjl)⟩
  rcases hr with rfl | ⟨b, o, rfl, hb, hc⟩
  · cases hu
  · have h1 := hc j u hu 0 u rfl
    rw [Nat.mul_one] at h1
    exact ⟨b, o, u, rfl, hb, h1, he j u l hu hj⟩
theorem addp {a b : Int} (h0 : -1000000000000 ≤ a) (h1 : a ≤ 1000000000000) (h2 : -1000000000000 ≤ b) (h3 : b ≤ 1000000000000) : IntKind.wrap .i64 (a + b) = a + b := by
  rw [IntKind.wrap_i64]
  omega
/-- the state of StatementTelescopes between two rounds: the books before -/
structure Te (W : World) (B : Nat) (w : World) (G : Nat) (z : Int) (u : Value) (l : List RW.Rw) : Prop where
  b : W.heap[G]? = some (.cells (bks z u) 28 (0, 0))
  r : RwsO W (G + 1) u l
  ok : RW.Mk l
  bel : Below B w W
  ge : B ≤ G
theorem Te.lt {W : World} {B : Nat} {w : World} {G : Nat} {z : Int} {u : Value} {l : List RW.Rw} (h : Te W B w G z u l) : G < W.heap.size := (Array.getElem?_eq_some_iff.1 h.b).1
theorem Te.next {W W' : World} {B k : Nat} {w : World} {G : Nat} {z : Int} {u : Value} {l : List RW.Rw} (h : Te W B w G z u l) (hB : Below k W W') (hk : k = W.heap.size) : Te W' B w G z u l := by
  subst hk
  exact ⟨(hB.block _ h.lt).trans h.b, h.r.next hB, h.ok, h.bel.trans (hB.mono (Nat.le_of_lt (Nat.lt_of_le_of_lt h.ge h.lt))), h.ge⟩
/-- the books of a round, the statement, the list of statements -/
structure Tr4 (W : World) (B : Nat) (w : World) (G : Nat) (z : Int) (u : Value) (l : List RW.Rw) (g : Nat) (y : Int) (v : Value) (m : List RW.Rw) : Prop where
  te : Te W B w G z u l
  b : W.heap[g]? = some (.cells (bks y v) 28 (0, 0))
  r : RwsO W (G + 1) v m
  ok : RW.Mk m
  ne : G < g
theorem Tr4.next {W W' : World} {B k : Nat} {w : World} {G : Nat} {z : Int} {u : Value} {l : List RW.Rw} {g : Nat} {y : Int} {v : Value} {m : List RW.Rw} (h : Tr4 W B w G z u l g y v m) (hB : Below k W W') (hk : k = W.heap.size) : Tr4 W' B w G z u l g y v m := by
  subst hk
  exact ⟨h.te.next hB rfl, (hB.block _ (Array.getElem?_eq_some_iff.1 h.b).1).trans h.b, h.r.next hB, h.ok, h.ne⟩
theorem Tr4.put {W : World} {B : Nat} {w : World} {G : Nat} {z : Int} {u : Value} {l : List RW.Rw} {g : Nat} {y : Int} {v : Value} {m : List RW.Rw} (h : Tr4 W B w G z u l g y v m) : Te (W.setRow G (bks y v)) B w G y v m :=
  ⟨setRow_heap _ _ _ _ _ _ h.te.b, own_setRow h.r _ (by omega) _, h.ok, belowSetRow h.te.bel h.te.ge _, h.te.ge⟩
theorem RW.sumR_bd {f : Int → Int} (hf : ∀ i, 0 ≤ f i ∧ f i ≤ 2400000) : ∀ (d : Nat) (k : Int), 0 ≤ RW.sumR f d k ∧ RW.sumR f d k ≤ 2400000 * (d : Int)
  | 0, _ => by simp [RW.sumR]
  | d + 1, k => by
    have h1 := RW.sumR_bd hf d (k + 1)
    have h2 := hf k
    rw [RW.sumR, Int.natCast_add]
    omega
theorem StsV.get {W : World} {v : Value} {ss : List RW.St} (h : StsV W v ss) : ∃ a c, v = .slice a ss.length c ∧ ∀ (k : Nat) (s : RW.St), ss[k]? = some s → ∃ (b o : Nat) (x : Value), a = some ⟨b, o, none⟩ ∧ b < W.heap.size ∧ W.rangeAt b (o + k * 3) (stc (s.1, s.2.1, x)) ∧ LnsV W x s.2.2 := by
  obtain ⟨vs, ⟨a, c, rfl, _, hr⟩, hl, he⟩ := h
  refine ⟨a, c, by rw [hl], fun j l hj => ?_⟩
  have hjl := (List.getElem?_eq_some_iff.1 hj).1
  obtain ⟨u, hu⟩ : ∃ u, vs[j]? = some u := ⟨_, List.getElem?_eq_getElem (by rw [hl]; exact hjl)⟩
  rcases hr with rfl | ⟨b, o, rfl, hb, hc⟩
  · cases hu
  · obtain ⟨e1, e2, e3⟩ := he j u l hu hj
    refine ⟨b, o, u.2.2, rfl, hb, ?_, e3⟩
    rw [← e1, ← e2]
    exact hc j u hu
set_option maxRecDepth 10000 in
set_option maxHeartbeats 8000000 in
theorem tel_any (v : Value) (ls : List (List RW.Ln)) (hb : ∀ l ∈ ls, l.length ≤ 9223372036854775807 ∧ ∀ x ∈ l, RW.i64t x) (hm0 : ls.length ≤ 9223372036854775807) (hd : Int) (hd0 : -9223372036854775808 ≤ hd) (hd1 : hd ≤ 9223372036854775807) (w : World) (hv : TlV w v ls) :
    Calls Try.prog 5 #[v, .int .i64 hd] w fun e w' => e = .returned (.bool true) ∧ Below w.heap.size w w' := by
  obtain ⟨av, cv, rfl, hav⟩ := hv.get
  obtain ⟨B, hB⟩ : ∃ B, B = w.heap.size := ⟨_, rfl⟩
  have hBH := hide hB
  have havH := hide (fun W (hW : Below B w W) (j : Nat) (l : List RW.Ln) (hj : ls[j]? = some l) => (show ∃ b o u, av = some ⟨b, o, none⟩ ∧ W.cell? ⟨b, o + j, none⟩ = some u ∧ LnsV W u l from by
    obtain ⟨b, o, u, h1, h2, h3, h4⟩ := hav j l hj
    exact ⟨b, o, u, h1, (World.cell?_of_block (a := ⟨b, o + j, none⟩) (hW.block _ (by rw [hB]; exact h2))).trans h3, h4.next (hB ▸ hW)⟩))
  have hbH := hide hb
  obtain ⟨m, hm⟩ : ∃ m, m = ls.length := ⟨_, rfl⟩
  have hmH := hide hm
  rw [← hm] at hm0 ⊢
  have hsz := hide (fun W (hW : Below B w W) => (show B ≤ W.heap.size by rw [hB]; exact (hB ▸ hW).size))
  have hP := hide (fun W => pick_any hd 5 hd0 hd1 (by decide) (by decide) W)
  have k0 := RW.pickI_bd hd 5 (by decide)
  obtain ⟨p, hp⟩ : ∃ p, p = RW.pickI hd 5 := ⟨_, rfl⟩
  rw [← hp] at hP k0
  obtain ⟨k1, k2⟩ := k0
  rw [← hB]
  clear hp hb hm hav hB
  go_enter Try.func5, Try.ntmps5
  go_upto_region 3 with (first
    | (go_at_call 8; refine (sane_any _).mono ?_; rintro e w1 ⟨rfl, hB1⟩; have hB1H := hide hB1; clear hB1)
    | (go_at_call 11; refine (hP.out _).mono ?_; rintro e w' ⟨rfl, rfl⟩))
  obtain ⟨h, hh⟩ : ∃ h, h = 1 + p := ⟨_, rfl⟩
  rw [← hh]
  clear hh k1 k2 hP hd0 hd1
  refine gen_w (fun W => Below B w W) (hBH.out ▸ hB1H.out) ?_
  clear hB1H
  intro w2 hB2
  obtain ⟨G, hG⟩ : ∃ G, G = w2.heap.size := ⟨_, rfl⟩
  have hT2 := hide (show Te (w2.alloc (.cells (bks (-1) (.slice none 0 0)) 28)) B w G (-1) (.slice none 0 0) [] from
    ⟨newAt hG, RwsO.nil _ _, RW.mk_nil, alloc_bel hB2 (Nat.le_of_eq hBH.out) _, by rw [hG]; exact hsz.out _ hB2⟩)
  clear hB2
  unfold bks at hT2
  go_wp2
  rw [← hG]
  clear hG
  go_loopw [8, 9] (fun s i wr => ∃ (j : Nat) (z : Int) (u : Value) (l : List RW.Rw), s = .int .i64 (RW.allP l h) ∧ i = .int .i64 j ∧ j ≤ m ∧ j ≤ 6 ∧ Hid (Te wr B w G z u l)) (fun _ i _ => 6 - (intOf i).toNat)
  case atStart => exact ⟨0, _, _, [], by rw [RW.allP_nil], rfl, Nat.zero_le _, Nat.zero_le _, hT2.out⟩
  case round =>
    obtain ⟨j, z, u, l, rfl, rfl, hj, hj6, hQ⟩ := hrel
    obtain ⟨wo, hwo⟩ : ∃ wo, wo = wr := ⟨_, rfl⟩
    subst hwo
    have hT := hide hQ.out
    clear hQ hT2
    obtain ⟨s0, hs0⟩ : ∃ s, s = RW.allP l h := ⟨_, rfl⟩
    have hs0H := hide hs0
    have hs0b := hide (show 0 ≤ s0 ∧ s0 ≤ 100000000 by rw [hs0]; exact RW.allP_bd hT.out.ok h)
    rw [← hs0]
    clear hs0
    by_cases hjm : j < m
    · by_cases hj3 : j < 6
      · obtain ⟨x, hx⟩ : ∃ r, ls[j]? = some r := ⟨_, List.getElem?_eq_getElem (by rw [← hmH.out]; exact hjm)⟩
        obtain ⟨b, o, ux, rfl, hcx, hvx⟩ := havH.out wo hT.out.bel j x hx
        have hbx := hbH.out x (List.mem_of_getElem? hx)
        obtain ⟨ax, cx, rfl, hrx⟩ := id hvx
        have hMk := hide (make_any _ x hbx.1 hbx.2 (j : Int) (by omega) (by omega) wo hvx)
        obtain ⟨nx, hnx⟩ : ∃ n, n = x.length := ⟨_, rfl⟩
        rw [← hnx] at hMk hcx
        obtain ⟨N, hN⟩ : ∃ N, N = RW.mkA x := ⟨_, rfl⟩
        have hNk := hide (show RW.Mk N by rw [hN]; exact RW.mkA_mk x)
        obtain ⟨y, hy⟩ : ∃ y, y = RW.pickI (j : Int) 8 := ⟨_, rfl⟩
        rw [← hN, ← hy] at hMk
        have hjmH := hide hjm
        clear hN hy hx hvx hbx hnx hrx
        go_upto_region 9 with (first
          | (go_at_call 10; refine hMk.out.mono ?_; rintro e w3 ⟨v1, rfl, hR1, hB3⟩; have hR1H := hide hR1; have hB3H := hide hB3; have hone := bk_one hR1 y; have hps := bk_size y v1; clear hR1 hB3)
          | (refine wpListStoreNew rfl 28 (.tmp 10) (.tmp 38) rfl (bks y v1) rfl rfl 28 _ hps rfl hone ?_))
        obtain ⟨g1, hg1⟩ : ∃ g, g = w3.heap.size := ⟨_, rfl⟩
        have hO1 := hide (show Tr4 (w3.alloc (.cells (bks y v1) 28)) B w G z u l g1 y v1 N from by
          have h3 := hT.out.next hB3H.out rfl
          have h4 := alloc_bel (Below.refl w3.heap.size w3) (Nat.le_refl _) (.cells (bks y v1) 28)
          exact ⟨h3.next h4 rfl, newAt hg1, RwsO.next (own_base hR1H.out hT.out.lt) h4, hNk.out, by rw [hg1]; exact h3.lt⟩)
        rw [← hg1]
        refine gen_w (fun W => Tr4 W B w G z u l g1 y v1 N) hO1.out ?_
        clear hO1 hg1 hR1H hB3H hone hps hMk hcx hT
        intro w4 hO4
        have hO4H := hide hO4
        have hOf := hide (of_any z y h u v1 l N (by have := hO4.te.ok.2; omega) (by have := hO4.ok.2; omega) hO4.te.ok.near hO4.ok.near w4 hO4.te.r.row hO4.r.row)
        have hb0 := hO4.te.b
        have hb1 := hO4.b
        have hi0 := bk_size z u
        have hi1 := bk_size y v1
        clear hO4
        go_upto_region 10 with (first
          | (refine wpList_load_row rfl 28 (.tmp 7) rfl G rfl 28 _ (0, 0) _ hb0 Try.underlying28 rfl hi0 ?_)
          | (refine wpList_load_row rfl 28 (.tmp 10) rfl g1 rfl 28 _ (0, 0) _ hb1 Try.underlying28 rfl hi1 ?_)
          | (go_at_call 12; refine hOf.out.mono ?_; rintro e w5 ⟨vl, rfl, hL5, hB5⟩; obtain ⟨al, cl, el⟩ := lnl_block hL5; subst el; have hL5H := hide hL5; have hB5H := hide hB5; clear hL5 hB5))
        obtain ⟨L, hL⟩ : ∃ L, L = RW.lns l N h := ⟨_, rfl⟩
        obtain ⟨nl, hnl⟩ : ∃ n, n = L.length := ⟨_, rfl⟩
        have hLH := hide hL
        have hnlH := hide hnl
        rw [← hL, ← hnl] at hL5H
        rw [← hL]
        rw [← hnl]
        clear hL hnl
        obtain ⟨g2, hg2⟩ : ∃ g, g = w5.heap.size := ⟨_, rfl⟩
        have hN5 := hide (show Tr4 (w5.alloc (.cells #[.int .i64 h, .int .i64 y, .slice al nl cl] 39)) B w G z u l g1 y v1 N ∧ (w5.alloc (.cells #[.int .i64 h, .int .i64 y, .slice al nl cl] 39)).heap[g2]? = some (.cells #[.int .i64 h, .int .i64 y, .slice al nl cl] 39 (0, 0)) ∧ LnsV (w5.alloc (.cells #[.int .i64 h, .int .i64 y, .slice al nl cl] 39)) (.slice al nl cl) L from by
          have h4 := alloc_bel (Below.refl w5.heap.size w5) (Nat.le_refl _) (.cells #[.int .i64 h, .int .i64 y, .slice al nl cl] 39)
          exact ⟨(hO4H.out.next hB5H.out rfl).next h4 rfl, newAt hg2, (LnsO.next hL5H.out h4).row⟩)
        rw [← hg2]
        refine gen_w (fun W => Tr4 W B w G z u l g1 y v1 N ∧ W.heap[g2]? = some (.cells #[.int .i64 h, .int .i64 y, .slice al nl cl] 39 (0, 0)) ∧ LnsV W (.slice al nl cl) L) hN5.out ?_
        clear hN5 hg2 hL5H hB5H hOf hb0 hb1 hO4H
        rintro w6 ⟨hN6, hg6, hl6⟩
        have hAll := hide (all_any z y u v1 l N (by have := hN6.te.ok.2; omega) (by have := hN6.ok.2; omega) hN6.te.ok.near hN6.ok.near w6 hN6.te.r.row hN6.r.row)
        have hb0 := hN6.te.b
        have hb1 := hN6.b
        have hN6H := hide (fun W (hW : Below w6.heap.size w6 W) => (show Tr4 W B w G z u l g1 y v1 N ∧ W.heap[g2]? = some (.cells #[.int .i64 h, .int .i64 y, .slice al nl cl] 39 (0, 0)) ∧ LnsV W (.slice al nl cl) L from ⟨hN6.next hW rfl, (hW.block _ (Array.getElem?_eq_some_iff.1 hg6).1).trans hg6, hl6.next hW⟩))
        clear hN6 hg6 hl6
        go_wp2_with (first
          | (refine wpList_load_row rfl 28 (.tmp 7) rfl G rfl 28 _ (0, 0) _ hb0 Try.underlying28 rfl hi0 ?_)
          | (refine wpList_load_row rfl 28 (.tmp 10) rfl g1 rfl 28 _ (0, 0) _ hb1 Try.underlying28 rfl hi1 ?_)
          | (go_at_call 18; refine hAll.out.mono ?_; rintro e w7 ⟨va, vs, rfl, hS7, hB7⟩; obtain ⟨asl, cs, eva, hS7g⟩ := hS7.sts.get; subst eva; have hS7H := hide hS7g; have hB7H := hide hB7; clear hS7 hB7 hS7g))
        obtain ⟨S, hS⟩ : ∃ S, S = RW.stAll l N y := ⟨_, rfl⟩
        have hSH := hide hS
        rw [← hS] at hS7H ⊢
        obtain ⟨ns, hns⟩ : ∃ n, n = S.length := ⟨_, rfl⟩
        have hnsH := hide hns
        rw [← hns]
        have hK := hide (fun W (hW : Below w7.heap.size w7 W) => hN6H.out W (hB7H.out.trans (hW.mono hB7H.out.size)))
        have hns5 := hide (show ns ≤ 100 by
          rw [hns, hS]
          have h1 := List.length_filter_le (fun s : RW.St => decide (0 < s.2.2.length)) ((RW.hols (l ++ N)).map (RW.stOf l N y))
          have h2 := RW.hols_len (l ++ N)
          rw [List.length_map] at h1
          rw [List.length_append] at h2
          have h3 := (hK.out w7 (Below.refl _ _)).1.te.ok.2
          have h4 := (hK.out w7 (Below.refl _ _)).1.ok.2
          unfold RW.stAll
          omega)
        clear hS hns hb0 hb1 hi0 hi1 hAll hN6H hB7H
        have hnsb : ns ≤ 100 := hns5.out
        go_loopw [13, 14] (fun fv i wr => ∃ (k : Nat) (f : Bool), fv = .bool f ∧ i = .int .i64 k ∧ k ≤ ns ∧ Hid (Below w7.heap.size w7 wr ∧ f = (S.take k).any (fun s => decide (s.1 = h)))) (fun _ i _ => ns - (intOf i).toNat)
        case atStart => exact ⟨0, false, rfl, rfl, Nat.zero_le _, Below.refl _ _, rfl⟩
        case round =>
          obtain ⟨k, f, rfl, rfl, hk, hQ⟩ := hrel
          obtain ⟨wi, hwi⟩ : ∃ wi, wi = wr := ⟨_, rfl⟩
          subst hwi
          have hBi := hide hQ.out.1
          have hF := hide hQ.out.2
          clear hQ
          by_cases hkn : k < ns
          · obtain ⟨t, ht⟩ : ∃ t, S[k]? = some t := ⟨_, List.getElem?_eq_getElem (by rw [← hnsH.out]; exact hkn)⟩
            obtain ⟨b', o', x', rfl, hb', hr', hl'⟩ := hS7H.out k t ht
            have htS := hide (show t = RW.stOf l N y t.1 from RW.st_of (b := l) (a := N) (c := y) (by rw [← hSH.out]; exact List.mem_of_getElem? ht))
            have hnx := hide (show (S.take (k + 1)).any (fun s => decide (s.1 = h)) = ((S.take k).any (fun s => decide (s.1 = h)) || decide (t.1 = h)) from RW.any_next ht)
            have hrW := hide (fun W (hW : Below w7.heap.size w7 W) => (show W.rangeAt b' (o' + k * 3) (stc (t.1, t.2.1, x')) from fun i u hu => (World.cell?_of_block (a := ⟨b', o' + k * 3 + i, none⟩) (hW.block _ hb')).trans (hr' i u hu)))
            have hlW := hide (fun W (hW : Below w7.heap.size w7 W) => hl'.next hW)
            have c0 : wi.cell? ⟨b', o' + k * 3, none⟩ = some (.int .i64 t.1) := hrW.out wi hBi.out 0 _ rfl
            have hknH := hide hkn
            obtain ⟨t1, ht1⟩ : ∃ a, a = t.1 := ⟨_, rfl⟩
            rw [← ht1] at c0 hnx
            have ht1H := hide ht1
            clear ht hr' hl' hb' ht1
            by_cases e : t1 = h
            · have hsm := hide (show decide (t.1 = h ∧ t.2.1 = y ∧ t.2.2 = L) = true from decide_eq_true (by
                have e1 : t.1 = h := by rw [← ht1H.out]; exact e
                have e2 := htS.out
                rw [e1] at e2
                exact ⟨e1, by rw [e2]; rfl, by rw [e2, hLH.out]; rfl⟩))
              have hll := hide (show t.2.2.length ≤ 1000000 ∧ L.length ≤ 1000000 by
                have e1 : t.1 = h := by rw [← ht1H.out]; exact e
                have e2 := htS.out
                rw [e1] at e2
                have e3 : t.2.2 = L := by rw [e2, hLH.out]; rfl
                have h1 := RW.lns_len l N h
                rw [← hLH.out] at h1
                have h3 := (hK.out w7 (Below.refl _ _)).1.te.ok.2
                have h4 := (hK.out w7 (Below.refl _ _)).1.ok.2
                rw [e3]
                omega)
              have hnx2 := hide (show (S.take (k + 1)).any (fun s => decide (s.1 = h)) = true by rw [hnx.out, decide_eq_true e, Bool.or_true])
              have hKi := hide (fun W (hW : Below wi.heap.size wi W) => hBi.out.trans (hW.mono hBi.out.size))
              go_upto_region 16 with fail
              clear c0
              refine wp_region_k (fun _ W => Below wi.heap.size wi W) (fun _ => True) [5] (.op 0 (.op 1 (.op 2 (.op 3 (.op 4 (.op 5 (.op 6 .nil))))))) (by kernel_rfl) (by kernel_rfl) (by rfl) (by kernel_rfl) (Below.refl wi.heap.size wi).drew trivial ?_
              refine k_val (.slice (some ⟨b', o', none⟩) ns cs) (by apply opN; repeat' (first | apply OpAt.z | apply OpAt.s)) (by rfl) (by rfl) (fun _ W hS => op_mv rfl rfl) ?_
              simp only [Act.put, List.setIfInBounds_toArray, List.set_cons_zero, List.set_cons_succ]
              refine k_val (.int .i64 (k : Int)) (by apply opN; repeat' (first | apply OpAt.z | apply OpAt.s)) (by rfl) (by rfl) (fun _ W hS => op_mv rfl rfl) ?_
              simp only [Act.put, List.setIfInBounds_toArray, List.set_cons_zero, List.set_cons_succ]
              refine k_val (.pointer (some ⟨b', o' + k * 3, none⟩)) (by apply opN; repeat' (first | apply OpAt.z | apply OpAt.s)) (by rfl) (by rfl) (fun _ W hS => op_ix rfl rfl rfl (ix_st hknH.out W)) ?_
              simp only [Act.put, List.setIfInBounds_toArray, List.set_cons_zero, List.set_cons_succ]
              refine k_val (.agg #[.int .i64 t.1, .int .i64 t.2.1, x']) (by apply opN; repeat' (first | apply OpAt.z | apply OpAt.s)) (by rfl) (by rfl) (fun _ W hS => op_ld rfl rfl (st_ld (x := (t.1, t.2.1, x')) (hrW.out W (hKi.out W hS)))) ?_
              simp only [Act.put, List.setIfInBounds_toArray, List.set_cons_zero, List.set_cons_succ]
              refine k_val (.agg #[.int .i64 h, .int .i64 y, .slice al nl cl]) (by apply opN; repeat' (first | apply OpAt.z | apply OpAt.s)) (by rfl) (by rfl) (fun _ W hS => op_ld rfl rfl (st_ld (x := (h, y, .slice al nl cl)) (st_row ((hK.out W (hKi.out W hS)).2.1)))) ?_
              simp only [Act.put, List.setIfInBounds_toArray, List.set_cons_zero, List.set_cons_succ]
              refine k_step (fun K' u => u = .bool true ∧ K' = fun _ => True) (by apply opN; repeat' (first | apply OpAt.z | apply OpAt.s)) (by rfl) (by rfl) (by rfl) (fun W hCW _ => ?_) ?_
              · refine op_x2 rfl rfl rfl rfl cf_same ?_
                refine (ssame_any t.1 t.2.1 h y x' (.slice al nl cl) t.2.2 L hll.out.1 hll.out.2 W (hlW.out W (hKi.out W hCW)) (hK.out W (hKi.out W hCW)).2.2).mono ?_
                rintro e W' ⟨rfl, h5⟩
                exact ⟨_, rfl, hCW.trans (h5.mono hCW.size), _, trivial, by rw [hsm.out], rfl⟩
              rintro _ _ ⟨rfl, rfl⟩
              simp only [Act.put, List.setIfInBounds_toArray, List.set_cons_zero, List.set_cons_succ]
              refine k_val (.bool true) (by apply opN; repeat' (first | apply OpAt.z | apply OpAt.s)) (by rfl) (by rfl) (fun _ W hS => op_asg rfl rfl) ?_
              simp only [Act.put, List.setIfInBounds_toArray, List.set_cons_zero, List.set_cons_succ]
              refine k_nil ?_
              intro W hCW _
              have hB9 := hide (hKi.out W hCW)
              clear hCW hKi hrW hlW hsm hll
              go_wp2
              go_roundw
              case rel => exact ⟨k + 1, true, rfl, by go_num, by omega, hB9.out, hnx2.out.symm⟩
              case measure => simp [intOf]; omega
            · have hnx2 := hide (show (S.take (k + 1)).any (fun s => decide (s.1 = h)) = (S.take k).any (fun s => decide (s.1 = h)) by rw [hnx.out, decide_eq_false e, Bool.or_false])
              go_wp2
              go_roundw
              case rel => exact ⟨k + 1, f, rfl, by go_num, by omega, hBi.out, by rw [hnx2.out]; exact hF.out⟩
              case measure => simp [intOf]; omega
          · obtain rfl : ns = k := by omega
            have hF2 := hide (show f = decide (0 < nl) by
              have h1 := hF.out
              rw [List.take_of_length_le (by rw [← hnsH.out]; exact Nat.le_refl _), hSH.out, RW.any_st, ← hLH.out, ← hnlH.out] at h1
              exact h1)
            have hKw := hK.out wi hBi.out
            have hTot := hide (total_any h y (.slice al nl cl) L (by
              have h1 := RW.lns_len l N h
              rw [← hLH.out] at h1
              have h3 := hKw.1.te.ok.2
              have h4 := hKw.1.ok.2
              omega) wi hKw.2.2)
            have htot := hide (show RW.tot L = RW.allP N h - RW.allP l h by rw [hLH.out]; exact RW.tot_lns hKw.1.ok hKw.1.te.ok h)
            have hNb := RW.allP_bd hKw.1.ok h
            obtain ⟨t, ht⟩ : ∃ t, t = RW.tot L := ⟨_, rfl⟩
            rw [← ht] at hTot htot
            have hst := hide (show s0 + t = RW.allP N h by rw [htot.out, hs0H.out]; omega)
            have hs0' := hs0b.out
            have ht0 : -100000000 ≤ t ∧ t ≤ 100000000 := by have := hst.out; omega
            obtain ⟨ht0a, ht0b⟩ := ht0
            obtain ⟨hs0a, hs0c⟩ := hs0'
            have d0 : wi.cell? ⟨g2, 0, none⟩ = some (.int .i64 h) := cellAt hKw.2.1 0
            have d1 : wi.cell? ⟨g2, 1, none⟩ = some (.int .i64 y) := cellAt hKw.2.1 1
            have d2 : wi.cell? ⟨g2, 2, none⟩ = some (.slice al nl cl) := cellAt hKw.2.1 2
            have d3 : wi.cell? ⟨g1, 0, none⟩ = some (.int .i64 y) := cellAt hKw.1.b 0
            have hg2 := hKw.2.1
            have his := st_size (h, y, .slice al nl cl)
            have hTr := hide hKw.1
            clear ht hNb hKw hK hS7H hF htot
            by_cases hn0 : 0 < nl
            · obtain rfl : f = true := by rw [hF2.out]; exact decide_eq_true hn0
              clear hF2
              go_upto_region 21 with (first
                | (refine wpList_load_row rfl 39 (.tmp 11) rfl g2 rfl 39 _ (0, 0) _ hg2 Try.underlying39 rfl his ?_)
                | (go_at_call 15; refine hTot.out.mono ?_; rintro e w9 ⟨rfl, hB9⟩; have hB9H := hide hB9; clear hB9))
              have hT9 := hide (hTr.out.next hB9H.out rfl)
              have hb1 := hT9.out.b
              have hb0 := hT9.out.te.b
              have hi1 := bk_size y v1
              have hone := bk_one hT9.out.r y
              have hT10 := hide hT9.out.put
              clear d0 d1 d2 d3 hg2 hB9H hTr hTot
              go_wp2_with (first
                | (refine wpList_load_row rfl 28 (.tmp 10) rfl g1 rfl 28 _ (0, 0) _ hb1 Try.underlying28 rfl hi1 ?_)
                | (refine wpList_store_row rfl 28 (.tmp 7) (.tmp 89) rfl G (bks y v1) rfl rfl 28 _ hb0 hi1 rfl hone ?_))
              go_roundw
              case rel => exact ⟨j + 1, y, v1, N, by rw [hst.out], by go_num, by have := hjmH.out; omega, by omega, hT10.out⟩
              case measure => simp [intOf]; omega
            · obtain rfl : nl = 0 := by omega
              obtain rfl : f = false := by rw [hF2.out]; rfl
              clear hF2
              go_upto_region 21 with (first
                | (refine wpList_load_row rfl 39 (.tmp 11) rfl g2 rfl 39 _ (0, 0) _ hg2 Try.underlying39 rfl his ?_)
                | (go_at_call 15; refine hTot.out.mono ?_; rintro e w9 ⟨rfl, hB9⟩; have hB9H := hide hB9; clear hB9))
              have hT9 := hide (hTr.out.next hB9H.out rfl)
              have hb1 := hT9.out.b
              have hb0 := hT9.out.te.b
              have hi1 := bk_size y v1
              have hone := bk_one hT9.out.r y
              have hT10 := hide hT9.out.put
              clear d0 d1 d2 d3 hg2 hB9H hTr hTot
              go_wp2_with (first
                | (refine wpList_load_row rfl 28 (.tmp 10) rfl g1 rfl 28 _ (0, 0) _ hb1 Try.underlying28 rfl hi1 ?_)
                | (refine wpList_store_row rfl 28 (.tmp 7) (.tmp 89) rfl G (bks y v1) rfl rfl 28 _ hb0 hi1 rfl hone ?_))
              go_roundw
              case rel => exact ⟨j + 1, y, v1, N, by rw [hst.out], by go_num, by have := hjmH.out; omega, by omega, hT10.out⟩
              case measure => simp [intOf]; omega
      · obtain rfl : j = 6 := by omega
        go_wp2
        go_loopw [16, 17] (fun s i wr => ∃ (q : Nat), s = .int .i64 (RW.sumR (RW.paid l h) q 0) ∧ i = .int .i64 q ∧ q ≤ 6 ∧ Hid (Te wr B w G z u l)) (fun _ i _ => 6 - (intOf i).toNat)
        case atStart => exact ⟨0, rfl, rfl, by decide, hT.out⟩
        case round =>
          obtain ⟨q, rfl, rfl, hq, hQ⟩ := hrel
          obtain ⟨wi, hwi⟩ : ∃ wi, wi = wr := ⟨_, rfl⟩
          subst hwi
          have hTi := hide hQ.out
          clear hQ hT
          have hf : ∀ i, 0 ≤ RW.paid l h i ∧ RW.paid l h i ≤ 2400000 := fun i => by
            have h1 := RW.paid_ok hTi.out.ok.1 h i
            have h2 := hTi.out.ok.2
            omega
          have hsb := RW.sumR_bd hf q 0
          have hfq := hf (q : Int)
          have hsn := hide (show RW.sumR (RW.paid l h) (q + 1) 0 = RW.sumR (RW.paid l h) q 0 + RW.paid l h (q : Int) by rw [RW.sumR_snoc, Int.zero_add])
          clear hf
          by_cases hq6 : q < 6
          · have hPd := hide (paid_any z h (q : Int) u l (by have := hTi.out.ok.2; omega) hTi.out.ok.near wi hTi.out.r.row)
            obtain ⟨sq, hsq⟩ : ∃ s, s = RW.sumR (RW.paid l h) q 0 := ⟨_, rfl⟩
            obtain ⟨pq, hpq⟩ : ∃ s, s = RW.paid l h (q : Int) := ⟨_, rfl⟩
            rw [← hpq] at hPd hfq hsn
            rw [← hsq] at hsb hsn
            rw [← hsq]
            obtain ⟨q1, q2⟩ := hsb
            obtain ⟨q3, q4⟩ := hfq
            have q5 : sq ≤ 100000000 := by omega
            have hb0 := hTi.out.b
            have hi0 := bk_size z u
            clear hsq hpq
            go_wp2_with (first
              | (refine wpList_load_row rfl 28 (.tmp 7) rfl G rfl 28 _ (0, 0) _ hb0 Try.underlying28 rfl hi0 ?_)
              | (go_at_call 25; refine hPd.out.mono ?_; rintro e w9 ⟨rfl, hB9⟩; have hT9 := hide (hTi.out.next hB9 rfl); clear hB9 hb0))
            go_roundw
            case rel => exact ⟨q + 1, by rw [hsn.out], by go_num, by omega, hT9.out⟩
            case measure => simp [intOf]; omega
          · obtain rfl : q = 6 := by omega
            rw [show RW.sumR (RW.paid l h) 6 0 = s0 from hs0H.out.symm]
            clear hsb hfq hsn
            go_wp2
            go_ret
            exact ⟨rfl, hTi.out.bel⟩
    · obtain rfl : m = j := by omega
      go_wp2
      go_loopw [16, 17] (fun s i wr => ∃ (q : Nat), s = .int .i64 (RW.sumR (RW.paid l h) q 0) ∧ i = .int .i64 q ∧ q ≤ 6 ∧ Hid (Te wr B w G z u l)) (fun _ i _ => 6 - (intOf i).toNat)
      case atStart => exact ⟨0, rfl, rfl, by decide, hT.out⟩
      case round =>
        obtain ⟨q, rfl, rfl, hq, hQ⟩ := hrel
        obtain ⟨wi, hwi⟩ : ∃ wi, wi = wr := ⟨_, rfl⟩
        subst hwi
        have hTi := hide hQ.out
        clear hQ hT
        have hf : ∀ i, 0 ≤ RW.paid l h i ∧ RW.paid l h i ≤ 2400000 := fun i => by
          have h1 := RW.paid_ok hTi.out.ok.1 h i
          have h2 := hTi.out.ok.2
          omega
        have hsb := RW.sumR_bd hf q 0
        have hfq := hf (q : Int)
        have hsn := hide (show RW.sumR (RW.paid l h) (q + 1) 0 = RW.sumR (RW.paid l h) q 0 + RW.paid l h (q : Int) by rw [RW.sumR_snoc, Int.zero_add])
        clear hf
        by_cases hq6 : q < 6
        · have hPd := hide (paid_any z h (q : Int) u l (by have := hTi.out.ok.2; omega) hTi.out.ok.near wi hTi.out.r.row)
          obtain ⟨sq, hsq⟩ : ∃ s, s = RW.sumR (RW.paid l h) q 0 := ⟨_, rfl⟩
          obtain ⟨pq, hpq⟩ : ∃ s, s = RW.paid l h (q : Int) := ⟨_, rfl⟩
          rw [← hpq] at hPd hfq hsn
          rw [← hsq] at hsb hsn
          rw [← hsq]
          obtain ⟨q1, q2⟩ := hsb
          obtain ⟨q3, q4⟩ := hfq
          have q5 : sq ≤ 100000000 := by omega
          have hb0 := hTi.out.b
          have hi0 := bk_size z u
          clear hsq hpq
          go_wp2_with (first
            | (refine wpList_load_row rfl 28 (.tmp 7) rfl G rfl 28 _ (0, 0) _ hb0 Try.underlying28 rfl hi0 ?_)
            | (go_at_call 25; refine hPd.out.mono ?_; rintro e w9 ⟨rfl, hB9⟩; have hT9 := hide (hTi.out.next hB9 rfl); clear hB9 hb0))
          go_roundw
          case rel => exact ⟨q + 1, by rw [hsn.out], by go_num, by omega, hT9.out⟩
          case measure => simp [intOf]; omega
        · obtain rfl : q = 6 := by omega
          rw [show RW.sumR (RW.paid l h) 6 0 = s0 from hs0H.out.symm]
          clear hsb hfq hsn
          go_wp2
          go_ret
          exact ⟨rfl, hTi.out.bel⟩
end Go.Proofs.Ytillplhadimgmaa

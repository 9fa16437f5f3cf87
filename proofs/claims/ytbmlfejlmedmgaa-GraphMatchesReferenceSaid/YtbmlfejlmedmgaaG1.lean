/-
  Package graph: a forest's find and join: what they return; only the map and new memory are written.
-/
import Derived.Test.YtbmlfejlmedmgaaG0
namespace Go.Proofs.Ytbmlfejlmedmgaa
open Go.RowKit RG
/-- block fb of W is a forest's map, whose representatives R gives -/
def FoA (W : World) (fb : Nat) (R : RW.Nd → RW.Nd) : Prop := ∃ l d, KM.OwnM RW.ndv W fb l ∧ RW.Fr l R d
theorem FoA.keep {W W' : World} {fb : Nat} {R : RW.Nd → RW.Nd} (h : FoA W fb R) (he : W'.heap[fb]? = W.heap[fb]?) : FoA W' fb R := by
  obtain ⟨l, d, h1, h2⟩ := h
  exact ⟨l, d, h1.keep he, h2⟩
theorem FoA.lt {W : World} {fb : Nat} {R : RW.Nd → RW.Nd} (h : FoA W fb R) : fb < W.heap.size := by
  obtain ⟨l, d, h1, _⟩ := h
  exact h1.lt
theorem FoA.cells {W : World} {fb : Nat} {R : RW.Nd → RW.Nd} (h : FoA W fb R) {g : Nat} {cs : Array Value} {t : TypeId} {fr : Nat × Nat} (hg : W.heap[g]? = some (.cells cs t fr)) : g ≠ fb := by
  obtain ⟨l, d, ⟨es, c, h1, _⟩, _⟩ := h
  rintro rfl
  rw [hg] at h1
  cases h1
theorem FoA.idem {W : World} {fb : Nat} {R : RW.Nd → RW.Nd} (h : FoA W fb R) (x : RW.Nd) : R (R x) = R x := by
  obtain ⟨l, d, _, h1⟩ := h
  exact h1.idem x
theorem node_zero (W : World) : (zeroValue 51).run Try.prog W = .ok (.agg #[.bool false, .int .i64 0]) W := by go_simp
theorem chg_upd {fb : Nat} {W W' : World} (h1 : W'.os = W.os) (h2 : W'.tape = W.tape) (h3 : W'.output = W.output) (h4 : W'.heap.size = W.heap.size) (h5 : ∀ j, j ≠ fb → W'.heap[j]? = W.heap[j]?) : ChgS (fun j => j = fb) W W' :=
  ⟨h1, h2, h3, by rw [h4]; exact Nat.le_refl _, fun k _ hk => h5 k hk⟩
theorem alloc_at1 (w : World) (A : Obj) : (w.alloc A).heap[w.heap.size]? = some A := heap_alloc_new w A
theorem alloc_old (w : World) (A : Obj) {k : Nat} {o : Obj} (h : w.heap[k]? = some o) : (w.alloc A).heap[k]? = some o := (Below.heap_alloc w A k (Array.getElem?_eq_some_iff.1 h).1).trans h
theorem alloc_size (w : World) (A : Obj) : (w.alloc A).heap.size = w.heap.size + 1 := by simp
theorem alloc_bel {B : Nat} {w W : World} (h : Below B w W) (hB : B ≤ w.heap.size) (A : Obj) : Below B w (W.alloc A) := h.alloc (Nat.le_trans hB h.size) A
/-- the frame of a find -/
structure FiR (w : World) (b0 fb : Nat) (xd : Bool) (xn : Int) (W : World) : Prop where
  r0 : W.heap[b0]? = some (.cells #[.map (some fb)] 47 (0, 0))
  r1 : W.heap[b0 + 1]? = some (.cells #[.bool xd, .int .i64 xn] 51 (0, 0))
  r2 : W.heap[b0 + 1 + 1]? = some (.cells #[.bool false, .int .i64 0] 51 (0, 0))
theorem FiR.next {w W W' : World} {b0 fb : Nat} {xd : Bool} {xn : Int} (h : FiR w b0 fb xd xn W) (hB : Below W.heap.size W W') : FiR w b0 fb xd xn W' :=
  ⟨(hB.block _ (Array.getElem?_eq_some_iff.1 h.r0).1).trans h.r0, (hB.block _ (Array.getElem?_eq_some_iff.1 h.r1).1).trans h.r1, (hB.block _ (Array.getElem?_eq_some_iff.1 h.r2).1).trans h.r2⟩
theorem FiR.chg {w W W' : World} {b0 fb : Nat} {xd : Bool} {xn : Int} (h : FiR w b0 fb xd xn W) (hB : ChgS (fun j => j = fb) W W') (hn : fb < b0) : FiR w b0 fb xd xn W' :=
  ⟨(hB.block _ (Array.getElem?_eq_some_iff.1 h.r0).1 (by omega)).trans h.r0, (hB.block _ (Array.getElem?_eq_some_iff.1 h.r1).1 (by omega)).trans h.r1, (hB.block _ (Array.getElem?_eq_some_iff.1 h.r2).1 (by omega)).trans h.r2⟩
theorem below_set {B b i : Nat} {w W : World} (h : Below B w W) (hb : B ≤ b) (v : Value) : Below B w (W.setCell ⟨b, i, none⟩ v) :=
  ⟨h.os, h.tape, h.output, by simpa using h.size, fun k hk => (Below.heap_setCell _ _ _ _ (show k ≠ b by omega)).trans (h.block k hk)⟩
theorem chg_set {Q : Nat → Prop} {b i : Nat} {w W : World} (h : ChgS Q w W) (hb : w.heap.size ≤ b) (v : Value) : ChgS Q w (W.setCell ⟨b, i, none⟩ v) :=
  ⟨h.os, h.tape, h.output, by simpa using h.size, fun k hk hn => (Below.heap_setCell _ _ _ _ (show k ≠ b by omega)).trans (h.block k hk hn)⟩
theorem set_else {b i k : Nat} (W : World) (v : Value) (h : k ≠ b) : (W.setCell ⟨b, i, none⟩ v).heap[k]? = W.heap[k]? := Below.heap_setCell _ _ _ _ h
theorem set_two {W : World} {b : Nat} {u v x y : Value} {t : TypeId} {fr : Nat × Nat} (h : W.heap[b]? = some (.cells #[u, v] t fr)) : ((W.setCell ⟨b, 0, none⟩ x).setCell ⟨b, 1, none⟩ y).heap[b]? = some (.cells #[x, y] t fr) :=
  setCells_heap [x, y] W b 0 #[u, v] t fr h
theorem node_info (a : Bool) (n : Int) : (Try.prog.info? 51).map (·.size) = some #[Value.bool a, .int .i64 n].size := by kernel_rfl
set_option maxRecDepth 10000 in
set_option maxHeartbeats 2000000 in
theorem find_fr (fb : Nat) (R : RW.Nd → RW.Nd) (d : RW.Nd → Nat) : ∀ (k : Nat) (x : RW.Nd), d x < k → ∀ (l : List (RW.Nd × Value)) (w : World), KM.OwnM RW.ndv w fb l → RW.Fr l R d →
    Calls Try.prog 24 #[.agg #[.map (some fb)], RW.ndv x] w fun e w' => e = .returned (RW.ndv (R x)) ∧ (∃ l', KM.OwnM RW.ndv w' fb l' ∧ RW.Fr l' R d) ∧ ChgS (fun j => j = fb) w w' := by
  intro k
  induction k with
  | zero => intro x hk; exact absurd hk (Nat.not_lt_zero _)
  | succ k ih =>
  intro x hk l w hO hF
  have hFH := hide hF
  have hOH := hide hO
  have hkH := hide hk
  have ihH := hide ih
  have hflt := hide hO.lt
  obtain ⟨xd, xn⟩ := x
  obtain ⟨b0, hb0⟩ : ∃ b, b = w.heap.size := ⟨_, rfl⟩
  have hb0H := hide hb0
  clear hF hO hk ih hb0
  show Calls Try.prog 24 #[.agg #[.map (some fb)], .agg #[.bool xd, .int .i64 xn]] w _
  go_enter Try.func24, Try.ntmps24
  go_upto_region 1 with fail
  refine gen_w (fun W => FiR w b0 fb xd xn W ∧ Below w.heap.size w W) ?_ ?_
  · rw [hb0H.out]
    exact ⟨⟨alloc_old _ _ (alloc_old _ _ (alloc_at1 _ _)), alloc_old _ _ (by rw [← alloc_size w (.cells #[.map (some fb)] 47)]; exact alloc_at1 _ _), by rw [← alloc_size w (.cells #[.map (some fb)] 47), ← alloc_size _ (.cells #[.bool xd, .int .i64 xn] 51)]; exact alloc_at1 _ _⟩,
      alloc_bel (alloc_bel (alloc_bel (Below.refl _ _) (Nat.le_refl _) _) (Nat.le_refl _) _) (Nat.le_refl _) _⟩
  rintro w1 ⟨hR, hB⟩
  rw [← hb0H.out]
  have hRH := hide hR
  have hBH := hide hB
  have hO1 := hOH.out.keep (hB.block fb hflt.out)
  have hlk := hO1.lookup_ok key2 Try.underlying45 (node_zero w1) (xd, xn)
  have c0 : w1.cell? ⟨b0, 0, none⟩ = some (.map (some fb)) := cellAt hR.r0 0
  have c1 : w1.cell? ⟨b0 + 1, 0, none⟩ = some (.bool xd) := cellAt hR.r1 0
  have c2 : w1.cell? ⟨b0 + 1, 1, none⟩ = some (.int .i64 xn) := cellAt hR.r1 1
  cases hg : KM.get (xd, xn) l with
  | none =>
    have hRx := hide (hFH.out.top _ hg)
    rw [hg] at hlk
    have hlk' : (Instr.lookup 45 (.map (some fb)) (.agg #[.bool xd, .int .i64 xn]) true).run Try.prog w1 = .ok (.tuple #[.agg #[.bool false, .int .i64 0], .bool false]) w1 := hlk
    have d2 : w1.cell? ⟨b0 + 1 + 1, 0, none⟩ = some (.bool false) := cellAt hR.r2 0
    have d3 : w1.cell? ⟨b0 + 1 + 1, 1, none⟩ = some (.int .i64 0) := cellAt hR.r2 1
    clear hlk hR hB hO1 hg
    go_upto_region 2 with fail
    refine gen_w (fun W => FiR w b0 fb xd xn W ∧ Below w.heap.size w W) ⟨hRH.out.next (alloc_bel (Below.refl _ _) (Nat.le_refl _) _), alloc_bel hBH.out (Nat.le_refl _) _⟩ ?_
    clear c0 c1 c2 d2 d3 hlk'
    rintro w2 ⟨hR2, hB2⟩
    have hB2H := hide hB2
    have c1 : w2.cell? ⟨b0 + 1, 0, none⟩ = some (.bool xd) := cellAt hR2.r1 0
    have c2 : w2.cell? ⟨b0 + 1, 1, none⟩ = some (.int .i64 xn) := cellAt hR2.r1 1
    have d2 : w2.cell? ⟨b0 + 1 + 1, 0, none⟩ = some (.bool false) := cellAt hR2.r2 0
    have d3 : w2.cell? ⟨b0 + 1 + 1, 1, none⟩ = some (.int .i64 0) := cellAt hR2.r2 1
    have f2 : w2.frozen? ⟨b0 + 1 + 1, 0, none⟩ = false := by simp [World.frozen?, hR2.r2]
    have f3 : w2.frozen? ⟨b0 + 1 + 1, 1, none⟩ = false := by simp [World.frozen?, hR2.r2]
    have hR2H := hide hR2
    clear hR2 hB2
    go_wp2
    refine bodyPost_ret (results_cell_row rfl _ _ (b0 + 1 + 1) 51 #[.bool xd, .int .i64 xn] (0, 0) _ rfl (set_two hR2H.out.r2) Try.underlying51 rfl (node_info xd xn)) rfl ⟨by rw [hRx.out]; rfl, ?_⟩
    have hBf := below_set (i := 1) (below_set (i := 0) hB2H.out (show w.heap.size ≤ b0 + 1 + 1 by rw [hb0H.out]; omega) (.bool xd)) (show w.heap.size ≤ b0 + 1 + 1 by rw [hb0H.out]; omega) (.int .i64 xn)
    exact ⟨⟨l, hOH.out.keep (hBf.block fb hflt.out), hFH.out⟩, ChgS.of_below hBf⟩
  | some v =>
    obtain ⟨⟨pd, pn⟩, rfl, hRp, hdp⟩ := hFH.out.up _ _ hg
    have hne := hide (show KM.get (xd, xn) l ≠ none by rw [hg]; exact Option.some_ne_none _)
    obtain ⟨⟨rd, rn⟩, hr⟩ : ∃ r, r = R (xd, xn) := ⟨_, rfl⟩
    have hrH := hide hr
    rw [hg] at hlk
    have hlk' : (Instr.lookup 45 (.map (some fb)) (.agg #[.bool xd, .int .i64 xn]) true).run Try.prog w1 = .ok (.tuple #[.agg #[.bool pd, .int .i64 pn], .bool true]) w1 := hlk
    have hdH := hide (show d (pd, pn) < k by have := hkH.out; omega)
    have hRpH := hide (hr.trans hRp)
    have hps := hide (fun (l' : List (RW.Nd × Value)) (h : RW.Fr l' R d) => h.pres hRp hdp)
    clear hlk hR hB hO1 hg hr hRp hdp
    go_upto_region 2 with fail
    refine gen_w (fun W => FiR w b0 fb xd xn W ∧ W.heap[w1.heap.size]? = some (.cells #[.bool pd, .int .i64 pn] 51 (0, 0)) ∧ Below w.heap.size w W) ⟨hRH.out.next (alloc_bel (Below.refl _ _) (Nat.le_refl _) _), alloc_at1 _ _, alloc_bel hBH.out (Nat.le_refl _) _⟩ ?_
    obtain ⟨b5, hb5⟩ : ∃ b, b = w1.heap.size := ⟨_, rfl⟩
    rw [← hb5]
    clear c0 c1 c2 hlk' hb5
    rintro w2 ⟨hR2, h52, hB2⟩
    have hR2H := hide hR2
    have hB2H := hide hB2
    have hO2 := hide (hOH.out.keep (hB2.block fb hflt.out))
    have c0 : w2.cell? ⟨b0, 0, none⟩ = some (.map (some fb)) := cellAt hR2.r0 0
    have c5 : w2.cell? ⟨b5, 0, none⟩ = some (.bool pd) := cellAt h52 0
    have c6 : w2.cell? ⟨b5, 1, none⟩ = some (.int .i64 pn) := cellAt h52 1
    clear hR2 hB2 h52
    have hC := hide (ihH.out (pd, pn) hdH.out l w2 hO2.out hFH.out)
    rw [← hRpH.out] at hC
    have hC' := hide (show Calls Try.prog 24 #[.agg #[.map (some fb)], .agg #[.bool pd, .int .i64 pn]] w2 fun e w' => e = .returned (.agg #[.bool rd, .int .i64 rn]) ∧ (∃ l', KM.OwnM RW.ndv w' fb l' ∧ RW.Fr l' R d) ∧ ChgS (fun j => j = fb) w2 w' from hC.out)
    clear hC
    go_upto_region 5 with (go_at_call 24; refine hC'.out.mono ?_; rintro e w3 ⟨rfl, ⟨l3, hO3, hF3⟩, hC3⟩; have hO3H := hide hO3; have hF3H := hide hF3; have hC3H := hide hC3; clear hO3 hF3 hC3)
    have hfb0 := hide (show fb < b0 by rw [hb0H.out]; exact hflt.out)
    have hCw := hide ((ChgS.of_below hB2H.out : ChgS (fun j => j = fb) w w2).trans hC3H.out)
    refine gen_w (fun W => FiR w b0 fb xd xn W ∧ W.heap[w3.heap.size]? = some (.cells #[.bool rd, .int .i64 rn] 51 (0, 0)) ∧ KM.OwnM RW.ndv W fb l3 ∧ ChgS (fun j => j = fb) w W) ⟨(hR2H.out.chg hC3H.out hfb0.out).next (alloc_bel (Below.refl _ _) (Nat.le_refl _) _), alloc_at1 _ _, hO3H.out.keep (Below.heap_alloc _ _ _ hO3H.out.lt), hCw.out.trans (ChgS.of_below (alloc_bel (Below.refl _ _) (Nat.le_refl _) _))⟩ ?_
    obtain ⟨b7, hb7⟩ : ∃ b, b = w3.heap.size := ⟨_, rfl⟩
    rw [← hb7]
    clear c0 c5 c6 hb7 hCw
    rintro w4 ⟨hR4, h74, hO4, hC4⟩
    have hR4H := hide hR4
    have hC4H := hide hC4
    have hn7 : b7 ≠ fb := by
      obtain ⟨es, c, h1, _⟩ := hO4
      rintro rfl
      rw [h74] at h1
      cases h1
    obtain ⟨w5, hup, hO5, e1, e2, e3, e4, e5⟩ := hO4.update key2 Try.underlying45 (xd, xn) (RW.ndv (rd, rn))
    have hup' : (Instr.mapUpdate 45 (.map (some fb)) (.agg #[.bool xd, .int .i64 xn]) (.agg #[.bool rd, .int .i64 rn])).run Try.prog w4 = .ok () w5 := hup
    have c0 : w4.cell? ⟨b0, 0, none⟩ = some (.map (some fb)) := cellAt hR4.r0 0
    have c1 : w4.cell? ⟨b0 + 1, 0, none⟩ = some (.bool xd) := cellAt hR4.r1 0
    have c2 : w4.cell? ⟨b0 + 1, 1, none⟩ = some (.int .i64 xn) := cellAt hR4.r1 1
    have c3 : w4.cell? ⟨b7, 0, none⟩ = some (.bool rd) := cellAt h74 0
    have c4 : w4.cell? ⟨b7, 1, none⟩ = some (.int .i64 rn) := cellAt h74 1
    have hC5 := chg_upd e1 e2 e3 e4 e5
    have h75 : w5.heap[b7]? = some (.cells #[.bool rd, .int .i64 rn] 51 (0, 0)) := (e5 b7 hn7).trans h74
    have hR5 := hR4.chg hC5 hfb0.out
    have hO5H := hide hO5
    have hC5H := hide (hC4.trans hC5)
    have hR5H := hide hR5
    have k3 : w5.cell? ⟨b7, 0, none⟩ = some (.bool rd) := cellAt h75 0
    have k4 : w5.cell? ⟨b7, 1, none⟩ = some (.int .i64 rn) := cellAt h75 1
    have d2 : w5.cell? ⟨b0 + 1 + 1, 0, none⟩ = some (.bool false) := cellAt hR5.r2 0
    have d3 : w5.cell? ⟨b0 + 1 + 1, 1, none⟩ = some (.int .i64 0) := cellAt hR5.r2 1
    have f2 : w5.frozen? ⟨b0 + 1 + 1, 0, none⟩ = false := by simp [World.frozen?, hR5.r2]
    have f3 : w5.frozen? ⟨b0 + 1 + 1, 1, none⟩ = false := by simp [World.frozen?, hR5.r2]
    clear hR4 h74 hO4 hC4 hn7 hup hO5 e1 e2 e3 e4 e5 hC5 h75 hR5
    go_wp2
    refine bodyPost_ret (results_cell_row rfl _ _ (b0 + 1 + 1) 51 #[.bool rd, .int .i64 rn] (0, 0) _ rfl (set_two hR5H.out.r2) Try.underlying51 rfl (node_info rd rn)) rfl ⟨by rw [← hrH.out]; rfl, ?_⟩
    have hCf := chg_set (i := 1) (chg_set (i := 0) hC5H.out (show w.heap.size ≤ b0 + 1 + 1 by rw [hb0H.out]; omega) (.bool rd)) (show w.heap.size ≤ b0 + 1 + 1 by rw [hb0H.out]; omega) (.int .i64 rn)
    have hFf := hF3H.out.short (xd, xn) (hps.out l3 hF3H.out)
    rw [← hrH.out] at hFf
    have hnf : fb ≠ b0 + 1 + 1 := by have := hfb0.out; omega
    exact ⟨⟨_, hO5H.out.keep ((set_else _ _ hnf).trans (set_else _ _ hnf)), hFf⟩, hCf⟩
theorem find_any {W : World} {fb : Nat} {R : RW.Nd → RW.Nd} (h : FoA W fb R) (x : RW.Nd) :
    Calls Try.prog 24 #[.agg #[.map (some fb)], RW.ndv x] W fun e w' => e = .returned (RW.ndv (R x)) ∧ FoA w' fb R ∧ ChgS (fun j => j = fb) W w' := by
  obtain ⟨l, d, h1, h2⟩ := h
  refine (find_fr fb R d (d x + 1) x (Nat.lt_succ_self _) l W h1 h2).mono ?_
  rintro e w' ⟨rfl, ⟨l', h3, h4⟩, h5⟩
  exact ⟨rfl, ⟨l', d, h3, h4⟩, h5⟩
end Go.Proofs.Ytbmlfejlmedmgaa

/-
  Package graph: a forest's join: only the map and new memory are written.
-/
import Derived.Test.YtbmlfejlmedmgaaGrO
namespace Go.Proofs.Ytbmlfejlmedmgaa
open Go.RowKit RG
def FrA (W : World) (b fb : Nat) : Prop := W.heap[b]? = some (.cells #[.map (some fb)] 47 (0, 0))
/-- a node in block b -/
def NdA (W : World) (b : Nat) (x : RW.Nd) : Prop := W.heap[b]? = some (.cells #[.bool x.1, .int .i64 x.2] 51 (0, 0))
theorem NdA.c0 {W : World} {b : Nat} {x : RW.Nd} (h : NdA W b x) : W.cell? ⟨b, 0, none⟩ = some (.bool x.1) := cellAt h 0
theorem NdA.c1 {W : World} {b : Nat} {x : RW.Nd} (h : NdA W b x) : W.cell? ⟨b, 0 + 1, none⟩ = some (.int .i64 x.2) := cellAt h 1
theorem NdA.f {W : World} {b i : Nat} {x : RW.Nd} (h : NdA W b x) : W.frozen? ⟨b, i, none⟩ = false := by
  unfold NdA at h
  simp [World.frozen?, h]
theorem NdA.lt {W : World} {b : Nat} {x : RW.Nd} (h : NdA W b x) : b < W.heap.size := (Array.getElem?_eq_some_iff.1 h).1
theorem NdA.chg {W W' : World} {b : Nat} {x : RW.Nd} {Q : Nat → Prop} (h : NdA W b x) (hC : ChgS Q W W') (hn : ¬ Q b) : NdA W' b x := (hC.block _ h.lt hn).trans h
theorem NdA.st {W : World} {b : Nat} {x : RW.Nd} (h : NdA W b x) (p : Bool) (n : Int) : NdA ((W.setCell ⟨b, 0, none⟩ (.bool p)).setCell ⟨b, 0 + 1, none⟩ (.int .i64 n)) b (p, n) := set_two h
theorem NdA.els {W : World} {b c : Nat} {x : RW.Nd} (h : NdA W b x) (p : Bool) (n : Int) (hn : b ≠ c) : NdA ((W.setCell ⟨c, 0, none⟩ (.bool p)).setCell ⟨c, 0 + 1, none⟩ (.int .i64 n)) b x := ((set_else _ _ hn).trans (set_else _ _ hn)).trans h
theorem FoA.els {W : World} {fb c : Nat} {R : RW.Nd → RW.Nd} (h : FoA W fb R) (p : Bool) (n : Int) (hn : fb ≠ c) : FoA ((W.setCell ⟨c, 0, none⟩ (.bool p)).setCell ⟨c, 0 + 1, none⟩ (.int .i64 n)) fb R := h.keep ((set_else _ _ hn).trans (set_else _ _ hn))
theorem FrA.els {W : World} {b c fb : Nat} (h : FrA W b fb) (p : Bool) (n : Int) (hn : b ≠ c) : FrA ((W.setCell ⟨c, 0, none⟩ (.bool p)).setCell ⟨c, 0 + 1, none⟩ (.int .i64 n)) b fb := ((set_else _ _ hn).trans (set_else _ _ hn)).trans h
theorem FoA.chg {W W' : World} {fb : Nat} {R : RW.Nd → RW.Nd} {Q : Nat → Prop} (h : FoA W fb R) (hC : ChgS Q W W') (hn : ¬ Q fb) : FoA W' fb R := h.keep (hC.block _ h.lt hn)
theorem FrA.lt {W : World} {b fb : Nat} (h : FrA W b fb) : b < W.heap.size := (Array.getElem?_eq_some_iff.1 h).1
theorem FrA.chg {W W' : World} {b fb : Nat} {Q : Nat → Prop} (h : FrA W b fb) (hC : ChgS Q W W') (hn : ¬ Q b) : FrA W' b fb := (hC.block _ h.lt hn).trans h
set_option maxRecDepth 10000 in
set_option maxHeartbeats 2000000 in
theorem join_any {w : World} {fb : Nat} {R : RW.Nd → RW.Nd} (h : FoA w fb R) (a b : RW.Nd) :
    Calls Try.prog 27 #[.agg #[.map (some fb)], RW.ndv a, RW.ndv b] w fun e w' => (∃ u, e = .returned u) ∧ FoA w' fb (RW.rJ R a b) ∧ ChgS (fun j => j = fb) w w' := by
  have hF := hide h
  obtain ⟨b0, hb0⟩ : ∃ b, b = w.heap.size := ⟨_, rfl⟩
  have hb0H := hide hb0
  have hlt := hide (show fb < b0 by rw [hb0]; exact h.lt)
  clear h hb0
  obtain ⟨ad, an⟩ := a
  obtain ⟨bd, bn⟩ := b
  show Calls Try.prog 27 #[.agg #[.map (some fb)], .agg #[.bool ad, .int .i64 an], .agg #[.bool bd, .int .i64 bn]] w _
  go_enter Try.func27, Try.ntmps27
  go_upto_region 1 with fail
  refine gen_w (fun W => FrA W b0 fb ∧ NdA W (b0 + 1) (ad, an) ∧ NdA W (b0 + 1 + 1) (bd, bn) ∧ Below w.heap.size w W) ?_ ?_
  · rw [hb0H.out]
    exact ⟨alloc_old _ _ (alloc_old _ _ (alloc_at1 _ _)), alloc_old _ _ (by rw [← alloc_size w (.cells #[.map (some fb)] 47)]; exact alloc_at1 _ _), by rw [← alloc_size w (.cells #[.map (some fb)] 47), ← alloc_size _ (.cells #[.bool ad, .int .i64 an] 51)]; exact alloc_at1 _ _,
      alloc_bel (alloc_bel (alloc_bel (Below.refl _ _) (Nat.le_refl _) _) (Nat.le_refl _) _) (Nat.le_refl _) _⟩
  rintro w1 ⟨h0, h1, h2, h3⟩
  rw [← hb0H.out]
  have k0 := hide h0
  have k1 := hide h1
  have k2 := hide h2
  have k3 := hide (show Below b0 w w1 by rw [hb0H.out]; exact h3)
  have kF := hide (hF.out.keep (h3.block _ hF.out.lt))
  clear h0 h1 h2 h3 hF
  obtain ⟨⟨rd, rn⟩, hr⟩ : ∃ r, r = R (ad, an) := ⟨_, rfl⟩
  obtain ⟨⟨sd, sn⟩, hs⟩ : ∃ r, r = R (bd, bn) := ⟨_, rfl⟩
  have hrH := hide hr
  have hsH := hide hs
  have n1 : b0 + 1 ≠ fb := by have := hlt.out; omega
  have n2 : b0 + 1 + 1 ≠ fb := by have := hlt.out; omega
  have n0 : b0 ≠ fb := by have := hlt.out; omega
  have nH := hide (⟨n0, n1, n2⟩ : b0 ≠ fb ∧ b0 + 1 ≠ fb ∧ b0 + 1 + 1 ≠ fb)
  clear hr hs n0 n1 n2
  refine wp_region_k (fun g W => FrA W b0 fb ∧ (6 ∉ g → NdA W (b0 + 1) (ad, an)) ∧ (7 ∉ g → NdA W (b0 + 1 + 1) (bd, bn)) ∧ Below b0 w w) (fun W => FoA W fb R ∧ ChgS (fun j => j = fb ∨ b0 ≤ j) w W) [2, 5, 6, 7] (.op 0 (.op 1 (.op 3 (.op 4 (.op 2 (.op 5 (.op 6 (.op 7 .nil)))))))) (by kernel_rfl) (by kernel_rfl) (by rfl) (by kernel_rfl) ⟨k0.out, fun _ => k1.out, fun _ => k2.out, Below.refl _ _⟩ ⟨kF.out, ⟨k3.out.os, k3.out.tape, k3.out.output, k3.out.size, fun k hk hn => k3.out.block k (by omega)⟩⟩ ?_
  refine k_val (.agg #[.map (some fb)]) (by apply opN; repeat' (first | apply OpAt.z | apply OpAt.s)) (by rfl) (by rfl) (fun _ W hS => op_load_fo rfl rfl (cellAt hS.1 0)) ?_
  simp only [Act.put, List.setIfInBounds_toArray, List.set_cons_zero, List.set_cons_succ]
  refine k_bef 6 (.agg #[.bool ad, .int .i64 an]) (by apply opN; repeat' (first | apply OpAt.z | apply OpAt.s)) (by rfl) (by rfl) (by decide +kernel) (by rfl) (fun _ W hg hS => op_load_nd rfl rfl (hS.2.1 hg).c0 (hS.2.1 hg).c1) ?_
  simp only [Act.put, List.setIfInBounds_toArray, List.set_cons_zero, List.set_cons_succ]
  refine k_val (.agg #[.map (some fb)]) (by apply opN; repeat' (first | apply OpAt.z | apply OpAt.s)) (by rfl) (by rfl) (fun _ W hS => op_load_fo rfl rfl (cellAt hS.1 0)) ?_
  simp only [Act.put, List.setIfInBounds_toArray, List.set_cons_zero, List.set_cons_succ]
  refine k_bef 7 (.agg #[.bool bd, .int .i64 bn]) (by apply opN; repeat' (first | apply OpAt.z | apply OpAt.s)) (by rfl) (by rfl) (by decide +kernel) (by rfl) (fun _ W hg hS => op_load_nd rfl rfl (hS.2.2.1 hg).c0 (hS.2.2.1 hg).c1) ?_
  simp only [Act.put, List.setIfInBounds_toArray, List.set_cons_zero, List.set_cons_succ]
  refine k_step (fun K' u => u = .agg #[.bool rd, .int .i64 rn] ∧ K' = fun W => FoA W fb R ∧ ChgS (fun j => j = fb ∨ b0 ≤ j) w W) (by apply opN; repeat' (first | apply OpAt.z | apply OpAt.s)) (by rfl) (by rfl) (by rfl) (fun W hC hK => ?_) ?_
  · refine op_x2 rfl rfl rfl rfl (fun _ _ => rfl) ((find_any hK.1 (ad, an)).mono ?_)
    rintro e W' ⟨rfl, h4, h5⟩
    exact ⟨_, rfl, ⟨hC.1.chg h5 nH.out.1, fun _ => (hC.2.1 (by decide)).chg h5 nH.out.2.1, fun _ => (hC.2.2.1 (by decide)).chg h5 nH.out.2.2, hC.2.2.2⟩, _, ⟨h4, hK.2.trans (h5.imp fun _ e => .inl e)⟩, by rw [← hrH.out]; rfl, rfl⟩
  rintro _ _ ⟨rfl, rfl⟩
  simp only [Act.put, List.setIfInBounds_toArray, List.set_cons_zero, List.set_cons_succ]
  refine k_step (fun K' u => u = .agg #[.bool sd, .int .i64 sn] ∧ K' = fun W => FoA W fb R ∧ ChgS (fun j => j = fb ∨ b0 ≤ j) w W) (by apply opN; repeat' (first | apply OpAt.z | apply OpAt.s)) (by rfl) (by rfl) (by rfl) (fun W hC hK => ?_) ?_
  · refine op_x2 rfl rfl rfl rfl (fun _ _ => rfl) ((find_any hK.1 (bd, bn)).mono ?_)
    rintro e W' ⟨rfl, h4, h5⟩
    exact ⟨_, rfl, ⟨hC.1.chg h5 nH.out.1, fun _ => (hC.2.1 (by decide)).chg h5 nH.out.2.1, fun _ => (hC.2.2.1 (by decide)).chg h5 nH.out.2.2, hC.2.2.2⟩, _, ⟨h4, hK.2.trans (h5.imp fun _ e => .inl e)⟩, by rw [← hsH.out]; rfl, rfl⟩
  rintro _ _ ⟨rfl, rfl⟩
  simp only [Act.put, List.setIfInBounds_toArray, List.set_cons_zero, List.set_cons_succ]
  refine k_step (fun K' u => K' = fun W => (FoA W fb R ∧ ChgS (fun j => j = fb ∨ b0 ≤ j) w W) ∧ NdA W (b0 + 1) (rd, rn)) (by apply opN; repeat' (first | apply OpAt.z | apply OpAt.s)) (by rfl) (by rfl) (by rfl) (fun W hC hK => ?_) ?_
  · have hN := hC.2.1 (by decide)
    have hN2 := hC.2.2.1 (by decide)
    refine xup_skip (op_store_nd (p := rd) (n := rn) rfl rfl rfl hN.c0 hN.c1 hN.f hN.f) ⟨⟨hC.1.els rd rn (by omega), fun h => absurd (by decide) h, fun _ => hN2.els rd rn (by omega), hC.2.2.2⟩, _, ⟨⟨hK.1.els rd rn (Ne.symm nH.out.2.1), (hK.2.set (.inr (by omega)) _).set (.inr (by omega)) _⟩, hN.st rd rn⟩, rfl⟩
  rintro _ _ rfl
  simp only [Act.put]
  refine k_step (fun K' u => K' = fun W => (FoA W fb R ∧ ChgS (fun j => j = fb ∨ b0 ≤ j) w W) ∧ NdA W (b0 + 1) (rd, rn) ∧ NdA W (b0 + 1 + 1) (sd, sn)) (by apply opN; repeat' (first | apply OpAt.z | apply OpAt.s)) (by rfl) (by rfl) (by rfl) (fun W hC hK => ?_) ?_
  · have hN2 := hC.2.2.1 (by decide)
    refine xup_skip (op_store_nd (p := sd) (n := sn) rfl rfl rfl hN2.c0 hN2.c1 hN2.f hN2.f) ⟨⟨hC.1.els sd sn (by omega), fun h => absurd (by decide) h, fun h => absurd (by decide) h, hC.2.2.2⟩, _, ⟨⟨hK.1.1.els sd sn (Ne.symm nH.out.2.2), (hK.1.2.set (.inr (by omega)) _).set (.inr (by omega)) _⟩, hK.2.els sd sn (by omega), hN2.st sd sn⟩, rfl⟩
  rintro _ _ rfl
  simp only [Act.put]
  refine k_nil ?_
  intro W hC hK
  obtain ⟨⟨hF2, hC2⟩, hN1, hN2⟩ := hK
  have c1 : W.cell? ⟨b0 + 1, 0, none⟩ = some (.bool rd) := hN1.c0
  have c2 : W.cell? ⟨b0 + 1, 1, none⟩ = some (.int .i64 rn) := hN1.c1
  have c3 : W.cell? ⟨b0 + 1 + 1, 0, none⟩ = some (.bool sd) := hN2.c0
  have c4 : W.cell? ⟨b0 + 1 + 1, 1, none⟩ = some (.int .i64 sn) := hN2.c1
  have c0 : W.cell? ⟨b0, 0, none⟩ = some (.map (some fb)) := cellAt hC.1 0
  have hF2H := hide hF2
  have hC2H := hide hC2
  have hfin : ∀ W', ChgS (fun j => j = fb ∨ b0 ≤ j) w W' → ChgS (fun j => j = fb) w W' := fun W' hx => ⟨hx.os, hx.tape, hx.output, hx.size, fun k hk hn => hx.block k hk (by rintro (e | e); exact hn e; rw [hb0H.out] at e; omega)⟩
  have hfinH := hide hfin
  clear hC hF2 hC2 hN1 hN2 hfin
  by_cases hq : (rd, rn) = (sd, sn)
  · have hne : ∀ V, (binOp .neq 51 (.agg #[.bool rd, .int .i64 rn]) (.agg #[.bool sd, .int .i64 sn])).run Try.prog V = .ok (.bool false) V := fun V => by have := neq2 (rd, rn) (sd, sn) V; rw [decide_eq_true hq] at this; exact this
    have hsm := hide (RW.rJ_same (R := R) (ad, an) (bd, bn) (by rw [← hrH.out, ← hsH.out, hq]))
    clear hq
    go_wp2
    go_end0
    rw [hsm.out]
    exact ⟨⟨_, rfl⟩, hF2H.out, hfinH.out _ hC2H.out⟩
  · have hne : ∀ V, (binOp .neq 51 (.agg #[.bool rd, .int .i64 rn]) (.agg #[.bool sd, .int .i64 sn])).run Try.prog V = .ok (.bool true) V := fun V => by have := neq2 (rd, rn) (sd, sn) V; rw [decide_eq_false hq] at this; exact this
    have hneR : R (ad, an) ≠ R (bd, bn) := by rw [← hrH.out, ← hsH.out]; exact hq
    obtain ⟨l, d, hO, hFr⟩ := hF2H.out
    have hFj := hFr.join (ad, an) (bd, bn) hneR
    rw [← hrH.out, ← hsH.out] at hFj
    obtain ⟨w5, hup, hO5, e1, e2, e3, e4, e5⟩ := hO.update key2 Try.underlying45 (rd, rn) (RW.ndv (sd, sn))
    have hup' : (Instr.mapUpdate 45 (.map (some fb)) (.agg #[.bool rd, .int .i64 rn]) (.agg #[.bool sd, .int .i64 sn])).run Try.prog W = .ok () w5 := hup
    have hres := hide (show FoA w5 fb (RW.rJ R (ad, an) (bd, bn)) ∧ ChgS (fun j => j = fb) w w5 from ⟨⟨_, _, hO5, hFj⟩, (hfinH.out _ hC2H.out).trans (chg_upd e1 e2 e3 e4 e5)⟩)
    clear hq hneR hO hFr hFj hup hO5 e1 e2 e3 e4 e5
    go_wp2
    go_end0
    exact ⟨⟨_, rfl⟩, hres.out.1, hres.out.2⟩
end Go.Proofs.Ytbmlfejlmedmgaa

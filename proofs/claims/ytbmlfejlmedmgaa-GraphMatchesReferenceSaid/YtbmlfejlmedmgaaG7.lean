/-
  Lists of lists of the call's own; the groups of a list of numbers by a key, plain; the state of Clusters.
-/
import Derived.Test.YtbmlfejlmedmgaaG6
namespace Go.Proofs.Ytbmlfejlmedmgaa
open Go.RowKit RG
namespace RW
/-- the first entry of a key -/
def kidx (st : List (Nd × List Int)) (r : Nd) : Option Nat := st.findIdx? fun e => decide (e.1 = r)
/-- a number put into the group of its key -/
def gadd (k : Int → Nd) (st : List (Nd × List Int)) (x : Int) : List (Nd × List Int) :=
  match kidx st (k x) with
  | some i => st.modify i fun e => (e.1, e.2 ++ [x])
  | none => st ++ [(k x, [x])]
def gst (k : Int → Nd) (A : List Int) : List (Nd × List Int) := A.foldl (gadd k) []
theorem gst_snoc (k : Int → Nd) (A : List Int) (x : Int) : gst k (A ++ [x]) = gadd k (gst k A) x := by
  unfold gst
  rw [List.foldl_append]
  rfl
theorem kidx_some {st : List (Nd × List Int)} {r : Nd} {i : Nat} (h : kidx st r = some i) : ∃ e, st[i]? = some e ∧ e.1 = r := by
  unfold kidx at h
  obtain ⟨hi, h1, _⟩ := List.findIdx?_eq_some_iff_getElem.1 h
  exact ⟨st[i], List.getElem?_eq_getElem hi, by simpa using h1⟩
theorem kidx_modify (st : List (Nd × List Int)) (r : Nd) (i : Nat) (x : Int) : kidx (st.modify i fun e => (e.1, e.2 ++ [x])) r = kidx st r := by
  have h : ∀ s : List (Nd × List Int), kidx s r = (s.map (·.1)).findIdx? (fun y => decide (y = r)) := fun s => by
    rw [kidx, List.findIdx?_map]
    rfl
  rw [h, h]
  congr 1
  apply List.ext_getElem?
  intro j
  rw [List.getElem?_map, List.getElem?_modify, List.getElem?_map]
  split
  · cases st[j]? <;> rfl
  · cases st[j]? <;> rfl
theorem kidx_snoc (st : List (Nd × List Int)) (r s : Nd) (g : List Int) (h : kidx st s = none) : kidx (st ++ [(s, g)]) r = if r = s then some st.length else kidx st r := by
  unfold kidx at h ⊢
  rw [List.findIdx?_append]
  by_cases hr : r = s
  · subst hr
    rw [h, if_pos rfl]
    simp
  · rw [if_neg hr]
    cases hf : List.findIdx? (fun e => decide (e.1 = r)) st with
    | some i => simp
    | none => simp [Ne.symm hr]
end RW
/-- the call's own list of lists: the outer row holds the values vs; each is the call's own list; no two share a block -/
structure OutA (W : World) (B : Nat) (vo : Value) (vs : List Value) (gs : List (List Int)) : Prop where
  row : W.ownsRow B 27 1 vo vs.length vs
  len : vs.length = gs.length
  el : ∀ (i : Nat) (u : Value) (x : List Int), vs[i]? = some u → gs[i]? = some x → IntsO W B u x
  dj : ∀ (i j : Nat) (u u' : Value) (g : Nat), vs[i]? = some u → vs[j]? = some u' → u.ownBlock = some g → u'.ownBlock = some g → i = j
section
variable {W W' : World} {B gb cap : Nat} {vo v' u : Value} {vs : List Value} {gs : List (List Int)} {x g' : List Int}
theorem OutA.nil (W : World) (B : Nat) : OutA W B (.slice none 0 0) [] [] := ⟨⟨rfl, .inl ⟨rfl, rfl⟩⟩, rfl, fun i u x h => by simp at h, fun i j u u' g h => by simp at h⟩
theorem OutA.get (h : OutA W B vo vs gs) {i : Nat} (hu : vs[i]? = some u) : ∃ x, gs[i]? = some x ∧ IntsO W B u x := by
  have hl := (List.getElem?_eq_some_iff.1 hu).1
  rw [h.len] at hl
  exact ⟨gs[i], List.getElem?_eq_getElem hl, h.el i u _ hu (List.getElem?_eq_getElem hl)⟩
/-- the outer row's block is not an inner one's -/
theorem OutA.apart (h : OutA W B vo vs gs) {i g : Nat} (hu : vs[i]? = some u) (h1 : vo.ownBlock = some g) : u.ownBlock ≠ some g := fun h2 => by
  obtain ⟨x, _, hx⟩ := h.get hu
  obtain ⟨c1, k1⟩ := (own_block h.row h1).2.2
  obtain ⟨c2, k2⟩ := own_cells hx h2
  exact blocks_ne k1 k2 (by decide) rfl
theorem OutA.chg {Q : Nat → Prop} (h : OutA W B vo vs gs) (hC : ChgS Q W W') (hq : ∀ g, B ≤ g → ¬ Q g) : OutA W' B vo vs gs :=
  ⟨own_keep h.row fun g hg => hC.block _ (own_block h.row hg).2.1 (hq g (own_block h.row hg).1), h.len, fun i u x hu hx => own_keep (h.el i u x hu hx) fun g hg => hC.block _ (own_block (h.el i u x hu hx) hg).2.1 (hq g (own_block (h.el i u x hu hx) hg).1), h.dj⟩
theorem OutA.next (h : OutA W B vo vs gs) (hB : Below W.heap.size W W') : OutA W' B vo vs gs := h.chg (Q := fun _ => False) (ChgS.of_below hB) (fun _ _ => id)
theorem OutA.form (h : OutA W B vo vs gs) : ∃ a c, vo = .slice a vs.length c := by
  rcases h.row.2 with ⟨rfl, h0⟩ | ⟨g, cap, cur, rfl, _⟩
  · exact ⟨none, 0, by rw [h0]⟩
  · exact ⟨_, _, rfl⟩
theorem OutA.block (h : OutA W B vo vs gs) {i : Nat} (hi : i < vs.length) : ∃ g c cur, vo = .slice (some ⟨g, 0, none⟩) vs.length c ∧ W.heap[g]? = some (.cells cur 27 (0, 0)) ∧ (∀ j v, vs[j]? = some v → W.cell? ⟨g, j, none⟩ = some v) := by
  rcases h.row.2 with ⟨rfl, h0⟩ | ⟨g, cap, cur, rfl, h2, h3, h4, h5, h6, h7⟩
  · omega
  · refine ⟨g, cap, cur, rfl, h3, fun j v hj => ?_⟩
    have hjl := (List.getElem?_eq_some_iff.1 hj).1
    rw [cellAt h3, ← Array.getElem?_toList]
    rw [← h7, List.getElem?_take] at hj
    split at hj
    · exact hj
    · cases hj
theorem ll_info : (Try.prog.info? 27).map (fun i => (i.zero, i.size, i.bytes)) = some (some (.slice none 0 0), 1, 24) := by kernel_rfl
theorem rowCells_v : ∀ l : List Value, rowCells (fun u : Value => [u]) l = l
  | [] => rfl
  | x :: l => by
    have := rowCells_v l
    unfold rowCells at this ⊢
    rw [List.flatMap_cons, this]
    rfl
/-- nil appended -/
theorem OutA.appNil (h : OutA W B vo vs gs) (hl : vs.length ≤ 1000000) (hB : B ≤ W.heap.size) :
    ∃ v' W', (Builtin.append_ #[33, 33] 33 #[vo, .slice (some ⟨W.heap.size, 0, none⟩) 1 1]).run Try.prog (W.alloc (.cells #[.slice none 0 0] 27)) = .ok v' W' ∧ OutA W' B v' (vs ++ [.slice none 0 0]) (gs ++ [[]]) ∧ Below B W W' := by
  have hA := alloc_bel (Below.refl W.heap.size W) (Nat.le_refl _) (.cells #[.slice none 0 0] 27)
  have h1 := h.next hA
  have hg := alloc_at1 W (.cells #[.slice none 0 0] 27)
  obtain ⟨i0, hi, hz0, hz1, hz2⟩ := info_parts ll_info
  obtain ⟨v', W', hr, ho, hgr, _, hv⟩ := run_append_own_at (P := Try.prog) (w := W.alloc (.cells #[.slice none 0 0] 27)) B 33 33 27 i0 (.slice none 0 0) 1 24 Try.underlying33 hi hz0 hz1 hz2 rfl (by decide) vo vs.length vs h1.row ⟨W.heap.size, 0, none⟩ 1 1 [.slice none 0 0] rfl (fun j u hj => by
    rcases j with _ | j
    · simp at hj
      subst hj
      exact cellAt hg 0
    · simp at hj) (fun u hu => by simp at hu; rw [hu]; rfl) (by unfold maxLen; omega) (by omega) (Nat.le_trans hB hA.size)
  have hC : ChgS (fun j => vo.ownBlock = some j) (W.alloc (.cells #[.slice none 0 0] 27)) W' := ⟨hgr.os, hgr.tape, hgr.output, hgr.size, fun k hk hn => hgr.block k hk fun e => hn e.symm⟩
  refine ⟨v', W', hr, ⟨?_, ?_, ?_, ?_⟩, (hA.mono hB).trans (hC.below (fun k hk => (own_block h1.row hk).1) (Nat.le_trans hB hA.size))⟩
  · rw [List.length_append]
    exact ho
  · rw [List.length_append, List.length_append, h.len]
    rfl
  · intro i u x hu hx
    rcases Nat.lt_or_ge i vs.length with hi | hi
    · rw [List.getElem?_append_left hi] at hu
      rw [List.getElem?_append_left (by rw [← h.len]; exact hi)] at hx
      exact own_keep (h1.el i u x hu hx) fun g hg => hC.block _ (own_block (h1.el i u x hu hx) hg).2.1 fun e => h1.apart hu e hg
    · rw [List.getElem?_append_right hi] at hu
      rw [List.getElem?_append_right (by rw [← h.len]; exact hi)] at hx
      rcases hii : i - vs.length with _ | k
      · rw [hii] at hu
        rw [← h.len, hii] at hx
        simp at hu hx
        subst hu hx
        exact IntsO.nil _ _
      · rw [hii] at hu
        simp at hu
  · intro i j u u' g hu hu' e1 e2
    have hnil : ∀ (k : Nat) (y : Value), vs.length ≤ k → (vs ++ [Value.slice none 0 0])[k]? = some y → y.ownBlock = none := fun k y hk hy => by
      rw [List.getElem?_append_right hk] at hy
      rcases hkk : k - vs.length with _ | k'
      · rw [hkk] at hy
        simp at hy
        subst hy
        rfl
      · rw [hkk] at hy
        simp at hy
    rcases Nat.lt_or_ge i vs.length with hi | hi
    · rcases Nat.lt_or_ge j vs.length with hj | hj
      · rw [List.getElem?_append_left hi] at hu
        rw [List.getElem?_append_left hj] at hu'
        exact h.dj i j u u' g hu hu' e1 e2
      · rw [hnil j u' hj hu'] at e2
        cases e2
    · rw [hnil i u hi hu] at e1
      cases e1
/-- a list grown, and put back into its place -/
theorem OutA.upd (h : OutA W B (.slice (some ⟨gb, 0, none⟩) vs.length cap) vs gs) {i : Nat} (hu : vs[i]? = some u) (hO : IntsO W' B v' g') (hC : ChgS (fun j => u.ownBlock = some j) W W') (hv : v'.ownBlock = u.ownBlock ∨ ∃ k, v'.ownBlock = some k ∧ W.heap.size ≤ k) :
    W'.ownsRow B 27 1 (.slice (some ⟨gb, 0, none⟩) vs.length cap) vs.length vs ∧ OutA (W'.setCell ⟨gb, i, none⟩ v') B (.slice (some ⟨gb, 0, none⟩) vs.length cap) (vs.set i v') (gs.set i g') := by
  have hi := (List.getElem?_eq_some_iff.1 hu).1
  have hgo : (Value.slice (some ⟨gb, 0, none⟩) vs.length cap).ownBlock = some gb := rfl
  have hrow : W'.ownsRow B 27 1 (.slice (some ⟨gb, 0, none⟩) vs.length cap) vs.length vs := own_keep h.row fun g hg => hC.block _ (own_block h.row hg).2.1 fun e => h.apart hu hg e
  have hne : ∀ g, v'.ownBlock = some g → g ≠ gb := fun g hg e => by
    subst e
    obtain ⟨c1, k1⟩ := (own_block hrow hgo).2.2
    obtain ⟨c2, k2⟩ := own_cells hO hg
    exact blocks_ne k1 k2 (by decide) rfl
  refine ⟨hrow, ⟨?_, ?_, ?_, ?_⟩⟩
  · have := own_set (k := 1) (enc := fun u : Value => [u]) (e := 27) (B := B) (W := W') (g := gb) (l := vs) (cap := cap) (fun _ => rfl) (by decide) (by rw [rowCells_v]; exact hrow) i hi v'
    rw [rowCells_v, Nat.mul_one] at this
    rw [List.length_set]
    exact this
  · rw [List.length_set, List.length_set]
    exact h.len
  · intro j y x hy hx
    by_cases hj : i = j
    · subst hj
      rw [List.getElem?_set_self hi] at hy
      rw [List.getElem?_set_self (by rw [← h.len]; exact hi)] at hx
      cases hy
      cases hx
      exact own_keep hO fun g hg => set_else _ _ (hne g hg)
    · rw [List.getElem?_set_ne hj] at hy hx
      exact own_keep (h.el j y x hy hx) fun g hg => (set_else _ _ (fun e : g = gb => h.apart hy hgo (e ▸ hg))).trans (hC.block _ (own_block (h.el j y x hy hx) hg).2.1 fun e => hj (h.dj i j u y g hu hy e hg))
  · intro j k y y' g hy hy' e1 e2
    have hold : ∀ (m : Nat) (z : Value), vs[m]? = some z → z.ownBlock = some g → g < W.heap.size := fun m z hz hg => by
      obtain ⟨x, _, hx⟩ := h.get hz
      exact (own_block hx hg).2.1
    by_cases hj : i = j
    · subst hj
      by_cases hk : i = k
      · exact hk
      · rw [List.getElem?_set_self hi] at hy
        rw [List.getElem?_set_ne hk] at hy'
        cases hy
        rcases hv with e | ⟨q, e, hq⟩
        · exact h.dj i k u y' g hu hy' (e ▸ e1) e2
        · rw [e] at e1
          cases e1
          have := hold k y' hy' e2
          omega
    · rw [List.getElem?_set_ne hj] at hy
      by_cases hk : i = k
      · subst hk
        rw [List.getElem?_set_self hi] at hy'
        cases hy'
        rcases hv with e | ⟨q, e, hq⟩
        · exact h.dj j i y u g hy hu e1 (e ▸ e2)
        · rw [e] at e2
          cases e2
          have := hold j y hy e1
          omega
      · rw [List.getElem?_set_ne hk] at hy'
        exact h.dj j k y y' g hy hy' e1 e2
theorem OutA.ll (h : OutA W B vo vs gs) : LL W vo gs := ⟨vs, rowV_own (k := 1) (enc := fun u : Value => [u]) (B := B) (e := 27) (n := vs.length) (fun _ => rfl) (by decide) (by rw [rowCells_v]; exact h.row), h.len, fun i u x hu hx => (h.el i u x hu hx).row⟩
end
/-- what Clusters holds beside its list: the clusters, the three boxes, the map of indexes -/
structure CsR (W : World) (B B2 cb mb ab p0 p1 p2 : Nat) (va vd vo : Value) (R : RW.Nd → RW.Nd) (A D : List Int) (st : List (RW.Nd × List Int)) : Prop where
  cl : Cl0 W B cb mb va vd va vd R A D
  un : Und B2 cb mb p0 va vd
  b0 : W.heap[p0]? = some (.cells #[.pointer (some ⟨cb, 0, none⟩)] 43 (0, 0))
  b1 : W.heap[p1]? = some (.cells #[.map (some ab)] 54 (0, 0))
  b2 : W.heap[p2]? = some (.cells #[vo] 33 (0, 0))
  mp : ∃ L, KM.OwnM RW.ndv W ab L ∧ ∀ r, KM.get r L = (RW.kidx st r).map fun i => .int .i64 (i : Int)
  u1 : p1 < B2
  u2 : p2 < B2
  ua : ab < B2
  am : ab ≠ mb
  ba : B ≤ ab
  bp : B ≤ p2
  sz : B2 ≤ W.heap.size
section
variable {W W' : World} {B B2 cb mb ab p0 p1 p2 : Nat} {va vd vo v' : Value} {R : RW.Nd → RW.Nd} {A D : List Int} {st st' : List (RW.Nd × List Int)}
theorem CsR.next (h : CsR W B B2 cb mb ab p0 p1 p2 va vd vo R A D st) (hB : Below B2 W W') : CsR W' B B2 cb mb ab p0 p1 p2 va vd vo R A D st := by
  obtain ⟨L, h1, h2⟩ := h.mp
  exact ⟨h.cl.und h.un hB, h.un, (hB.block _ h.un.r).trans h.b0, (hB.block _ h.u1).trans h.b1, (hB.block _ h.u2).trans h.b2, ⟨L, h1.keep (hB.block _ h.ua), h2⟩, h.u1, h.u2, h.ua, h.am, h.ba, h.bp, Nat.le_trans h.sz hB.size⟩
theorem own_ne {W : World} {g fb : Nat} {κ : Type} {kv : κ → Value} {L : List (κ × Value)} {c : Array Value} {t : TypeId} {fr : Nat × Nat} (h : KM.OwnM kv W fb L) (hg : W.heap[g]? = some (.cells c t fr)) : g ≠ fb := by
  obtain ⟨es, cl, h1, _⟩ := h
  rintro rfl
  rw [hg] at h1
  cases h1
theorem CsR.find (h : CsR W B B2 cb mb ab p0 p1 p2 va vd vo R A D st) (hF : FoA W' mb R) (hC : ChgS (fun j => j = mb) W W') : CsR W' B B2 cb mb ab p0 p1 p2 va vd vo R A D st := by
  obtain ⟨L, h1, h2⟩ := h.mp
  have hs := h.sz
  have g0 := h.un.r
  have g1 := h.u1
  have g2 := h.u2
  exact ⟨h.cl.forest hF hC, h.un, (hC.block _ (by omega) (h.cl.fo.cells h.b0)).trans h.b0, (hC.block _ (by omega) (h.cl.fo.cells h.b1)).trans h.b1, (hC.block _ (by omega) (h.cl.fo.cells h.b2)).trans h.b2, ⟨L, h1.keep (hC.block _ h1.lt h.am), h2⟩, h.u1, h.u2, h.ua, h.am, h.ba, h.bp, Nat.le_trans h.sz hC.size⟩
theorem CsR.atput (h : CsR W B B2 cb mb ab p0 p1 p2 va vd vo R A D st) (hA : ∃ L, KM.OwnM RW.ndv W' ab L ∧ ∀ r, KM.get r L = (RW.kidx st' r).map fun i => .int .i64 (i : Int)) (hC : ChgS (fun j => j = ab) W W') : CsR W' B B2 cb mb ab p0 p1 p2 va vd vo R A D st' := by
  obtain ⟨L, h1, h2⟩ := h.mp
  have hs := h.sz
  have g0 := h.un.r
  have g1 := h.u1
  have g2 := h.u2
  have hcl : Cl0 W' B cb mb va vd va vd R A D := ⟨(hC.block _ h.cl.lt.1 (own_ne h1 h.cl.row)).trans h.cl.row, h.cl.fo.chg hC (Ne.symm h.am), own_keep h.cl.oa fun g hg => hC.block _ (own_block h.cl.oa hg).2.1 (by obtain ⟨c, k⟩ := own_cells h.cl.oa hg; exact own_ne h1 k), own_keep h.cl.od fun g hg => hC.block _ (own_block h.cl.od hg).2.1 (by obtain ⟨c, k⟩ := own_cells h.cl.od hg; exact own_ne h1 k), h.cl.ne, h.cl.hb, h.cl.hm⟩
  exact ⟨hcl, h.un, (hC.block _ (by omega) (own_ne h1 h.b0)).trans h.b0, (hC.block _ (by omega) (own_ne h1 h.b1)).trans h.b1, (hC.block _ (by omega) (own_ne h1 h.b2)).trans h.b2, hA, h.u1, h.u2, h.ua, h.am, h.ba, h.bp, Nat.le_trans h.sz hC.size⟩
theorem CsR.setout (h : CsR W B B2 cb mb ab p0 p1 p2 va vd vo R A D st) (v' : Value) : CsR (W.setCell ⟨p2, 0, none⟩ v') B B2 cb mb ab p0 p1 p2 va vd v' R A D st := by
  obtain ⟨L, h1, h2⟩ := h.mp
  have e : ∀ k, k ≠ p2 → (W.setCell ⟨p2, 0, none⟩ v').heap[k]? = W.heap[k]? := fun k hk => set_else _ _ hk
  have hcl : Cl0 (W.setCell ⟨p2, 0, none⟩ v') B cb mb va vd va vd R A D := ⟨(e _ (blocks_ne h.cl.row h.b2 (by decide))).trans h.cl.row, h.cl.fo.keep (e _ (Ne.symm (h.cl.fo.cells h.b2))), own_keep h.cl.oa fun g hg => e _ (by obtain ⟨c, k⟩ := own_cells h.cl.oa hg; exact blocks_ne k h.b2 (by decide)), own_keep h.cl.od fun g hg => e _ (by obtain ⟨c, k⟩ := own_cells h.cl.od hg; exact blocks_ne k h.b2 (by decide)), h.cl.ne, h.cl.hb, h.cl.hm⟩
  exact ⟨hcl, h.un, (e _ (blocks_ne h.b0 h.b2 (by decide))).trans h.b0, (e _ (blocks_ne h.b1 h.b2 (by decide))).trans h.b1, heap_setCell_same _ _ _ _ _ _ h.b2, ⟨L, h1.keep (e _ (Ne.symm (own_ne h1 h.b2))), h2⟩, h.u1, h.u2, h.ua, h.am, h.ba, h.bp, by simpa using h.sz⟩
end
end Go.Proofs.Ytbmlfejlmedmgaa

/-
  A slice whose room is too small, appended to: the result is a new row of the call's own: no condition beyond each theorem's own premises.
-/
import Derived.Test.YtcbckcojebanaaaDoorMS
namespace Go.Proofs.YtcbckcojebanaaaDoor
open Go.RowKit
section
variable {α : Type} {k : Nat} {enc : α → List Value} {P : Program}
theorem RowV.firstC {W : World} {a : Option Addr} {c sz : Nat} {l : List α} (hk : ∀ x, (enc x).length = k) (h0 : 0 < k) (hsz : sz = k) (h : RowV k enc W (.slice a l.length c) l) : (Builtin.firstCells sz l.length (.slice a l.length c)).run P W = .ok (rowCells enc l).toArray W := by
  subst hsz
  obtain ⟨a', c', e, _, ha⟩ := h
  injection e with e1 e2 e3
  subst e1
  cases a with
  | none =>
    obtain rfl : l = [] := by
      rcases ha with rfl | ⟨b, o, hab, _⟩
      · rfl
      · cases hab
    exact run_firstCells_none W _ _ _ _
  | some ad =>
    have hc : ∀ j u, (rowCells enc l)[j]? = some u → W.cell? (ad.add j) = some u := by
      rcases ha with rfl | ⟨b, o, hab, _, hc⟩
      · intro j u hj; simp [rowCells] at hj
      · cases hab
        exact rowV_cells hk h0 hc
    exact run_firstCells_some W _ _ _ _ _ _ (rowCells_len hk l) hc
theorem run_app_clip {t e : TypeId} {z : Value} {bytes : Nat} (ty : TypeId) (ht : P.underlying t = some (.slice e)) (hinfo : (P.info? e).map (fun i => (i.zero, i.size, i.bytes)) = some (some z, k, bytes)) (hzs : z.cells.size = k) (h0 : 0 < k)
    (hk : ∀ x, (enc x).length = k) (hone : ∀ x, ∀ u ∈ enc x, u.oneCell' = true) {W : World} {a : Option Addr} {c : Nat} {y : Value} {l m : List α} (hv : RowV k enc W (.slice a l.length c) l) (hcl : c < l.length + m.length) (hy : RowV k enc W y m)
    (hlen : l.length + m.length ≤ maxLen) (hby : (l.length + m.length) * bytes ≤ 140737488355328) :
    ∃ v' W', (Builtin.append_ #[t, t] ty #[.slice a l.length c, y]).run P W = .ok v' W' ∧ W'.ownsRow W.heap.size e k v' (l ++ m).length (rowCells enc (l ++ m)) ∧ Below W.heap.size W W' := by
  obtain ⟨i0, hi, hz0, hz1, hz2⟩ := info_parts hinfo
  obtain ⟨b, c2, rfl, hc2, ha⟩ := hy
  have hcl2 : l.length ≤ c := by obtain ⟨_, _, e, h, _⟩ := hv; injection e with _ _ e3; omega
  have hsrc : Src P i0.size t (.slice b m.length c2) m.length (rowCells enc m) W := by
    rw [hz1]
    cases b with
    | none =>
      obtain rfl : m = [] := by
        rcases ha with rfl | ⟨b, o, hab, _⟩
        · rfl
        · cases hab
      simp at hcl
      omega
    | some ad =>
      refine Src.ofSlice W ht ad _ _ _ (rowCells_len hk m) ?_ (rowCells_one hone m)
      rcases ha with rfl | ⟨b, o, hab, _, hc⟩
      · intro j u hj; simp [rowCells] at hj
      · cases hab
        exact rowV_cells hk h0 hc
  have hv' : RowV k enc W.drew (.slice a l.length c) l := hv.next (Below.refl W.heap.size W).drew
  have hfit := growslice_fits (old := c) (need := l.length + m.length) (bytes := i0.bytes) hcl (by rw [hz2]; exact hby)
  have hr := run_append_grow_src (P := P) W t t ty e i0 z ht hi hz0 a l.length c (rowCells enc l) (RowV.firstC hk h0 hz1 hv') (.slice b m.length c2) m.length (rowCells enc m) hsrc hcl (by unfold maxLen at hlen; omega) hfit
  refine ⟨_, _, hr, ⟨by rw [rowCells_len hk], .inr ⟨W.heap.size, grownCap W (l.length + m.length) c e, _, by rw [List.length_append], Nat.le_refl _, by rw [show W.heap.size = W.drew.heap.size from rfl]; exact heap_alloc_new _ _, ?_, grownCap_le_maxLen W _ _ _ hlen, ?_, ?_⟩⟩, ?_⟩
  · rw [List.length_append]; exact grownCap_ge W _ _ _
  · have hg := grownCap_ge W (l.length + m.length) c e
    rw [Array.size_append, List.size_toArray, List.length_append, rowCells_len hk, rowCells_len hk, size_zeroCells, hzs, ← Nat.add_mul, ← Nat.add_mul]
    congr 1
    omega
  · rw [Array.toList_append, List.toList_toArray, List.length_append, rowCells_append]
    exact List.take_left' (by rw [List.length_append, rowCells_len hk, rowCells_len hk, Nat.add_mul])
  · exact ((Below.refl W.heap.size W).drew).alloc (Nat.le_refl _) _
end
end Go.Proofs.YtcbckcojebanaaaDoor

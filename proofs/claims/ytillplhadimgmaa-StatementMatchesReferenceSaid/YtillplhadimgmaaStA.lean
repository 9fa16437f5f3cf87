/-
  Appended to a row of the call's own: an int; any rows.
-/
import Derived.Maps.AppendAt
import Derived.Test.YtillplhadimgmaaSt1
namespace Go.Proofs.Ytillplhadimgmaa
open Go.RowKit RG
theorem run_app_at {P : Program} {α : Type} {k : Nat} {enc : α → List Value} {t e : TypeId} {z : Value} {bytes : Nat} (ty : TypeId) (ht : P.underlying t = some (.slice e)) (hinfo : (P.info? e).map (fun i => (i.zero, i.size, i.bytes)) = some (some z, k, bytes)) (hzs : z.cells.size = k) (h0 : 0 < k)
    (hk : ∀ x, (enc x).length = k) (hone : ∀ x, ∀ u ∈ enc x, u.oneCell' = true) {W : World} {B : Nat} {v y : Value} {l m : List α} (hown : W.ownsRow B e k v l.length (rowCells enc l)) (hB : B ≤ W.heap.size) (hy : RowV k enc W y m)
    (hlen : l.length + m.length ≤ maxLen) (hby : (l.length + m.length) * bytes ≤ 140737488355328) :
    ∃ v' W', (Builtin.append_ #[t, t] ty #[v, y]).run P W = .ok v' W' ∧ W'.ownsRow B e k v' (l ++ m).length (rowCells enc (l ++ m)) ∧ Below B W W' ∧ W.grownBy W' v.ownBlock ∧ (v'.ownBlock = v.ownBlock ∨ v'.ownBlock = some W.heap.size) := by
  obtain ⟨i0, hi, hz0, hz1, hz2⟩ := info_parts hinfo
  obtain ⟨a, c, rfl, _, ha⟩ := hy
  cases a with
  | some ad =>
    have hnews : ∀ j u, (rowCells enc m)[j]? = some u → W.cell? (ad.add j) = some u := by
      rcases ha with rfl | ⟨b, o, hab, _, hc⟩
      · intro j u hj; simp [rowCells] at hj
      · cases hab
        exact rowV_cells hk h0 hc
    obtain ⟨v', w3, hr, h2, h3, _, h6⟩ := run_append_own_at (P := P) W B t ty e i0 z k bytes ht hi hz0 hz1 hz2 hzs h0 v l.length (rowCells enc l) hown ad m.length c (rowCells enc m) (rowCells_len hk m) hnews (rowCells_one hone m) hlen hby hB
    refine ⟨v', w3, hr, ?_, (Below.refl B W).grown h3 hB (fun k hk => (hown.lt k hk).1), h3, h6⟩
    rw [rowCells_append, List.length_append]
    exact h2
  | none =>
    obtain rfl : m = [] := by
      rcases ha with rfl | ⟨b, o, hab, _⟩
      · rfl
      · cases hab
    have hown2 := hown
    rcases hown.2 with ⟨rfl, h00⟩ | ⟨g, cap, cur, rfl, _, hg, hn, _⟩
    · obtain rfl := List.length_eq_zero_iff.1 h00
      refine ⟨.slice none 0 0, W, ?_, by simpa using hown2, Below.refl _ _, ⟨rfl, rfl, rfl, Nat.le_refl _, fun _ _ _ => rfl⟩, .inl rfl⟩
      have hs : Src P i0.size t (.slice none 0 c) 0 [] W := Src.ofNil W ht c
      simp [Builtin.append_, run_underlying ht, sizeOf, typeInfo, hi, hs.len, hs.cells]
    · have hr := run_append_room_src (P := P) W t t ty e i0 ht hi g 0 l.length cap (.slice none 0 c) 0 [] (by rw [hz1]; exact Src.ofNil W ht c) (by omega) (by simp) (by simp)
      exact ⟨_, _, hr, by simpa [World.setCells] using hown2, Below.refl _ _, ⟨rfl, rfl, rfl, Nat.le_refl _, fun _ _ _ => rfl⟩, .inl rfl⟩
theorem int_info : (Try.prog.info? 3).map (fun i => (i.zero, i.size, i.bytes)) = some (some (.int .i64 0), 1, 8) := by kernel_rfl
/-- an int that lies alone in block g, appended -/
theorem IntsO.app1 {W : World} {B g : Nat} {v : Value} {l : List Int} (h : IntsO W B v l) (x : Int) (hl : l.length ≤ 1000000) (hB : B ≤ W.heap.size) (hg : W.heap[g]? = some (.cells #[.int .i64 x] 3 (0, 0))) :
    ∃ v' W', (Builtin.append_ #[36, 36] 36 #[v, .slice (some ⟨g, 0, none⟩) 1 1]).run Try.prog W = .ok v' W' ∧ IntsO W' B v' (l ++ [x]) ∧ ChgS (fun j => v.ownBlock = some j) W W' ∧ (v'.ownBlock = v.ownBlock ∨ v'.ownBlock = some W.heap.size) := by
  have hy : RowV 1 encI W (.slice (some ⟨g, 0, none⟩) [x].length 1) [x] := ⟨_, _, rfl, Nat.le_refl _, .inr ⟨g, 0, rfl, (Array.getElem?_eq_some_iff.1 hg).1, fun i y hy j u hj => by
    rcases i with _ | i
    · simp at hy
      subst hy
      rcases j with _ | j
      · simp at hj
        subst hj
        exact cellAt hg 0
      · simp at hj
    · simp at hy⟩⟩
  have hown : W.ownsRow B 3 1 v l.length (rowCells encI l) := by rw [intCells]; exact h
  obtain ⟨v', W', h1, h2, h3, h4, h5⟩ := run_app_at (P := Try.prog) 36 Try.underlying36 int_info (by rfl) (by decide) (fun _ => rfl) (by intro x u hu; simp at hu; rw [hu]; rfl) hown hB hy (by unfold maxLen; simp; omega) (by simp; omega)
  rw [intCells] at h2
  exact ⟨v', W', h1, h2, ⟨h4.os, h4.tape, h4.output, h4.size, fun k hk hn => h4.block k hk fun e => hn e.symm⟩, h5⟩
theorem IntsO.appNew {W : World} {B : Nat} {v : Value} {l : List Int} (h : IntsO W B v l) (x : Int) (hl : l.length ≤ 1000000) (hB : B ≤ W.heap.size) :
    ∃ v' W', (Builtin.append_ #[36, 36] 36 #[v, .slice (some ⟨W.heap.size, 0, none⟩) 1 1]).run Try.prog (W.alloc (.cells #[.int .i64 x] 3)) = .ok v' W' ∧ IntsO W' B v' (l ++ [x]) ∧ Below B W W' := by
  have hA := alloc_bel (Below.refl W.heap.size W) (Nat.le_refl _) (.cells #[.int .i64 x] 3)
  have h1 : IntsO (W.alloc (.cells #[.int .i64 x] 3)) B v l := own_keep h fun _ hg => hA.block _ (own_block h hg).2.1
  obtain ⟨v', W', g1, g2, g3, _⟩ := h1.app1 x hl (Nat.le_trans hB hA.size) (alloc_at1 W (.cells #[.int .i64 x] 3))
  exact ⟨v', W', g1, g2, (hA.mono hB).trans (g3.below (fun k hk => (own_block h1 hk).1) (Nat.le_trans hB hA.size))⟩
theorem IntsO.next {W W' : World} {B : Nat} {v : Value} {l : List Int} (h : IntsO W B v l) (hB : Below W.heap.size W W') : IntsO W' B v l := own_keep h fun g hg => hB.block _ (own_block h hg).2.1
end Go.Proofs.Ytillplhadimgmaa

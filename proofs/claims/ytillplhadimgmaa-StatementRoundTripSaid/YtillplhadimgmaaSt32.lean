/-
  A statement appended whose lines are not the call's own.
-/
import Derived.Test.YtillplhadimgmaaSt31
namespace Go.Proofs.Ytillplhadimgmaa
open Go.RowKit RG
/-- a statement appended that lies alone in block g: its lines may be older -/
theorem StsO.appV {W : World} {B : Nat} {vo : Value} {vs : List SV} {ss : List RW.St} (h : StsO W B vo vs ss) {g : Nat} {n c : Int} {v : Value} {l : List RW.Ln} (hg : W.heap[g]? = some (.cells #[.int .i64 n, .int .i64 c, v] 39 (0, 0))) (hv : ∀ W', Below B W W' → LnsV W' v l) (hone : v.oneCell' = true) (hl : vs.length ≤ 100000) (hB : B ≤ W.heap.size) :
    ∃ v' W', (Builtin.append_ #[44, 44] 44 #[vo, .slice (some ⟨g, 0, none⟩) 1 1]).run Try.prog W = .ok v' W' ∧ StsV W' v' (ss ++ [(n, c, l)]) ∧ Below B W W' := by
  have hone3 : ∀ q ∈ [Value.int .i64 n, Value.int .i64 c, v], q.oneCell' = true := by
    intro q hq
    simp at hq
    rcases hq with rfl | rfl | rfl
    · rfl
    · rfl
    · exact hone
  obtain ⟨i0, hi, hz0, hz1, hz2⟩ := info_parts st_info
  obtain ⟨v', W', hr, ho, hgr, _, _⟩ := run_append_own_at (P := Try.prog) (w := W) B 44 44 39 i0 (.agg #[.int .i64 0, .int .i64 0, .slice none 0 0]) 3 40 Try.underlying44 hi hz0 hz1 hz2 (by rfl) (by decide) vo vs.length (rowCells stc vs) h.row ⟨g, 0, none⟩ 1 1 [.int .i64 n, .int .i64 c, v] rfl (fun j q hj => by
    have e := cellAt hg j
    rw [show (⟨g, 0, none⟩ : Addr).add j = ⟨g, j, none⟩ by rw [Addr.add_mid, Nat.zero_add], e]
    simpa using hj) hone3 (by unfold maxLen; omega) (by omega) hB
  have hC : ChgS (fun j => vo.ownBlock = some j) W W' := ⟨hgr.os, hgr.tape, hgr.output, hgr.size, fun k hk hn => hgr.block k hk fun e => hn e.symm⟩
  have hBel : Below B W W' := hC.below (fun k hk => (own_block h.row hk).1) hB
  have hkeep : ∀ (q : Value) (y : List RW.Ln), LnsO W B q y → LnsO W' B q y := fun q y hq => own_keep hq fun g hg => hC.block _ (own_block hq hg).2.1 fun e => by
    obtain ⟨c1, k1⟩ := (own_block h.row e).2.2
    obtain ⟨c2, k2⟩ := (own_block hq hg).2.2
    exact blocks_ne k1 k2 (by decide) rfl
  have ho' : W'.ownsRow B 39 3 v' (vs ++ [(n, c, v)]).length (rowCells stc (vs ++ [(n, c, v)])) := by
    rw [List.length_append, rowCells_append]
    exact ho
  refine ⟨v', W', hr, ⟨vs ++ [(n, c, v)], rowV_own (B := B) (e := 39) (n := (vs ++ [(n, c, v)]).length) stc_len (by decide) ho', by rw [List.length_append, List.length_append, h.len]; rfl, fun i q y hq hy => ?_⟩, hBel⟩
  rcases Nat.lt_or_ge i vs.length with hi | hi
  · rw [List.getElem?_append_left hi] at hq
    rw [List.getElem?_append_left (by rw [← h.len]; exact hi)] at hy
    obtain ⟨e1, e2, e3⟩ := h.el i q y hq hy
    exact ⟨e1, e2, (hkeep _ _ e3).row⟩
  · rw [List.getElem?_append_right hi] at hq
    rw [List.getElem?_append_right (by rw [← h.len]; exact hi)] at hy
    rcases hii : i - vs.length with _ | k
    · rw [hii] at hq
      rw [← h.len, hii] at hy
      simp at hq hy
      subst hq hy
      exact ⟨rfl, rfl, hv W' hBel⟩
    · rw [hii] at hq
      simp at hq
end Go.Proofs.Ytillplhadimgmaa

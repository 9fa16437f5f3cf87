/-
  Package statement: Decode: what the reader holds behind its reads.
-/
import Derived.Test.YtillplhadimgmaaSt19
import Derived.Test.YtillplhadimgmaaSt17
import Derived.Test.YtillplhadimgmaaSt13
namespace Go.Proofs.Ytillplhadimgmaa
open Go.RowKit RG
theorem stp_chg {W0 W : World} {Q : Nat → Prop} {gr a : Nat} {p : PA} {n : Int} (h : ChgS Q W0 W) (hr : Q gr) (hp : Q p.1) : ChgS Q W0 (stp W gr p n a) := (h.set hp _).set hr _
theorem rdW_chg (l : List UInt8) (gr : Nat) (Q : Nat → Prop) (hr : Q gr) : ∀ (ps : List PA) (W0 W : World) (a : Nat), (∀ p ∈ ps, Q p.1) → ChgS Q W0 W → ChgS Q W0 (rdW l gr ps W a)
  | [], _, _, _, _, h => h
  | p :: ps, W0, W, a, hp, h => by
    rcases hd : RW.decI (l.drop a) with _ | ⟨n, k⟩
    · rw [rdW_none hd]
      exact h.set hr _
    · rw [rdW_some hd]
      exact rdW_chg l gr Q hr ps W0 _ _ (fun q hq => hp q (List.mem_cons_of_mem _ hq)) (stp_chg h hr (hp p List.mem_cons_self))
theorem stp_gr {W : World} {gr a a2 : Nat} {p : PA} {n : Int} {s : ByteArray} {bd : Bool} (h : W.heap[gr]? = some (.cells #[.string s, .int .i64 a, .bool bd] 82 (0, 0))) (hp : p.1 ≠ gr) : (stp W gr p n a2).heap[gr]? = some (.cells #[.string s, .int .i64 a2, .bool bd] 82 (0, 0)) :=
  (heap_setCell_same _ _ _ _ _ _ ((Below.heap_setCell _ _ _ _ (Ne.symm hp)).trans h)).trans rfl
theorem stp_at {W : World} {gr a2 b i : Nat} {n : Int} {c : Array Value} {t : TypeId} (h : W.heap[b]? = some (.cells c t (0, 0))) (hb : b ≠ gr) : (stp W gr (b, i) n a2).heap[b]? = some (.cells (c.setIfInBounds i (.int .i64 n)) t (0, 0)) :=
  (Below.heap_setCell _ _ _ _ hb).trans (heap_setCell_same _ _ _ _ _ _ h)
theorem stp_else {W : World} {gr a2 k : Nat} {p : PA} {n : Int} (hk : k ≠ gr) (hp : k ≠ p.1) : (stp W gr p n a2).heap[k]? = W.heap[k]? :=
  (Below.heap_setCell _ _ _ _ hk).trans (Below.heap_setCell _ _ _ _ hp)
theorem bad_gr {W : World} {gr a : Nat} {s : ByteArray} (h : W.heap[gr]? = some (.cells #[.string s, .int .i64 a, .bool false] 82 (0, 0))) : (W.setCell ⟨gr, 2, none⟩ (.bool true)).heap[gr]? = some (.cells #[.string s, .int .i64 a, .bool true] 82 (0, 0)) :=
  (heap_setCell_same _ _ _ _ _ _ h).trans rfl
/-- what a read leaves: the numbers, or the reader is bad -/
def RdOut (l : List UInt8) (a : Nat) (x y z : Int) (a2 : Nat) (bad : Bool) : Prop := (bad = true ∧ RW.decZ 3 (l.drop a) = none) ∨ (bad = false ∧ RW.decZ 3 (l.drop a) = some ([x, y, z], l.drop a2) ∧ a2 ≤ l.length)
theorem rdA {W : World} {gr gS gn a : Nat} {s : ByteArray} {v : Value} {x0 y0 : Int} {t : TypeId} (l : List UInt8) (h1 : gS ≠ gr) (h2 : gn ≠ gr) (h3 : gS ≠ gn) (r : W.heap[gr]? = some (.cells #[.string s, .int .i64 a, .bool false] 82 (0, 0)))
    (hS : W.heap[gS]? = some (.cells #[.int .i64 x0, .int .i64 y0, v] t (0, 0))) (hn : W.heap[gn]? = some (.cells #[.int .i64 0] 3 (0, 0))) (ha : a ≤ l.length) :
    ∃ x y z a2 bad, (rdW l gr [(gS, 0), (gS, 1), (gn, 0)] W a).heap[gr]? = some (.cells #[.string s, .int .i64 (a2 : Nat), .bool bad] 82 (0, 0)) ∧ (rdW l gr [(gS, 0), (gS, 1), (gn, 0)] W a).heap[gS]? = some (.cells #[.int .i64 x, .int .i64 y, v] t (0, 0)) ∧
      (rdW l gr [(gS, 0), (gS, 1), (gn, 0)] W a).heap[gn]? = some (.cells #[.int .i64 z] 3 (0, 0)) ∧ RdOut l a x y z a2 bad ∧ (bad = true → z = 0) := by
  rcases rdW3 l gr (gS, 0) (gS, 1) (gn, 0) W a ha with ⟨hz, e | ⟨n0, a0, e⟩ | ⟨n0, a0, n1, a1, e⟩⟩ | ⟨n0, n1, n2, a0, a1, a2, hz, hle, e⟩
  · exact ⟨x0, y0, 0, a, true, by rw [e]; exact bad_gr r, by rw [e]; exact (Below.heap_setCell _ _ _ _ h1).trans hS, by rw [e]; exact (Below.heap_setCell _ _ _ _ h2).trans hn, .inl ⟨rfl, hz⟩, fun _ => rfl⟩
  · exact ⟨n0, y0, 0, a0, true, by rw [e]; exact bad_gr (stp_gr r h1), by rw [e]; exact (Below.heap_setCell _ _ _ _ h1).trans ((stp_at hS h1).trans rfl), by rw [e]; exact (Below.heap_setCell _ _ _ _ h2).trans ((stp_else h2 (Ne.symm h3)).trans hn), .inl ⟨rfl, hz⟩, fun _ => rfl⟩
  · exact ⟨n0, n1, 0, a1, true, by rw [e]; exact bad_gr (stp_gr (stp_gr r h1) h1), by rw [e]; exact (Below.heap_setCell _ _ _ _ h1).trans ((stp_at ((stp_at hS h1).trans rfl) h1).trans rfl),
      by rw [e]; exact (Below.heap_setCell _ _ _ _ h2).trans ((stp_else h2 (Ne.symm h3)).trans ((stp_else h2 (Ne.symm h3)).trans hn)), .inl ⟨rfl, hz⟩, fun _ => rfl⟩
  · exact ⟨n0, n1, n2, a2, false, by rw [e]; exact stp_gr (stp_gr (stp_gr r h1) h1) h2, by rw [e]; exact (stp_else h1 h3).trans ((stp_at ((stp_at hS h1).trans rfl) h1).trans rfl),
      by rw [e]; exact (stp_at ((stp_else h2 (Ne.symm h3)).trans ((stp_else h2 (Ne.symm h3)).trans hn)) h2).trans rfl, .inr ⟨rfl, hz, hle⟩, fun h => by cases h⟩
theorem rdB {W : World} {gr gx a : Nat} {s : ByteArray} {x0 y0 z0 : Int} {t : TypeId} (l : List UInt8) (h1 : gx ≠ gr) (r : W.heap[gr]? = some (.cells #[.string s, .int .i64 a, .bool false] 82 (0, 0)))
    (hS : W.heap[gx]? = some (.cells #[.int .i64 x0, .int .i64 y0, .int .i64 z0] t (0, 0))) (ha : a ≤ l.length) :
    ∃ x y z a2 bad, (rdW l gr [(gx, 0), (gx, 1), (gx, 2)] W a).heap[gr]? = some (.cells #[.string s, .int .i64 (a2 : Nat), .bool bad] 82 (0, 0)) ∧ (rdW l gr [(gx, 0), (gx, 1), (gx, 2)] W a).heap[gx]? = some (.cells #[.int .i64 x, .int .i64 y, .int .i64 z] t (0, 0)) ∧ RdOut l a x y z a2 bad := by
  rcases rdW3 l gr (gx, 0) (gx, 1) (gx, 2) W a ha with ⟨hz, e | ⟨n0, a0, e⟩ | ⟨n0, a0, n1, a1, e⟩⟩ | ⟨n0, n1, n2, a0, a1, a2, hz, hle, e⟩
  · exact ⟨x0, y0, z0, a, true, by rw [e]; exact bad_gr r, by rw [e]; exact (Below.heap_setCell _ _ _ _ h1).trans hS, .inl ⟨rfl, hz⟩⟩
  · exact ⟨n0, y0, z0, a0, true, by rw [e]; exact bad_gr (stp_gr r h1), by rw [e]; exact (Below.heap_setCell _ _ _ _ h1).trans ((stp_at hS h1).trans rfl), .inl ⟨rfl, hz⟩⟩
  · exact ⟨n0, n1, z0, a1, true, by rw [e]; exact bad_gr (stp_gr (stp_gr r h1) h1), by rw [e]; exact (Below.heap_setCell _ _ _ _ h1).trans ((stp_at ((stp_at hS h1).trans rfl) h1).trans rfl), .inl ⟨rfl, hz⟩⟩
  · exact ⟨n0, n1, n2, a2, false, by rw [e]; exact stp_gr (stp_gr (stp_gr r h1) h1) h1, by rw [e]; exact (stp_at ((stp_at ((stp_at hS h1).trans rfl) h1).trans rfl) h1).trans rfl, .inr ⟨rfl, hz, hle⟩⟩
/-- the state of Decode: the result, the statement under way, the number of lines, the reader -/
structure DW (W : World) (B : Nat) (w : World) (s : ByteArray) (h c n : Int) (v : Value) (a : Nat) (bad : Bool) : Prop where
  b0 : W.heap[B]? = some (.cells #[.int .i64 0, .int .i64 0, .slice none 0 0] 39 (0, 0))
  b1 : W.heap[B + 1]? = some (.cells #[.int .i64 h, .int .i64 c, v] 39 (0, 0))
  b2 : W.heap[B + 1 + 1]? = some (.cells #[.int .i64 n] 3 (0, 0))
  b3 : W.heap[B + 1 + 1 + 1]? = some (.cells #[.string s, .int .i64 a, .bool bad] 82 (0, 0))
  bel : Below B w W
section
variable {W W' : World} {B k a : Nat} {w : World} {s : ByteArray} {h c n : Int} {v : Value} {bad : Bool}
theorem DW.next (hO : DW W B w s h c n v a bad) (hB : Below k W W') (hn : B + 1 + 1 + 1 < k) : DW W' B w s h c n v a bad :=
  ⟨(hB.block _ (by omega)).trans hO.b0, (hB.block _ (by omega)).trans hO.b1, (hB.block _ (by omega)).trans hO.b2, (hB.block _ (by omega)).trans hO.b3, hO.bel.trans (hB.mono (by omega))⟩
theorem DW.lt (hO : DW W B w s h c n v a bad) : B + 1 + 1 + 1 < W.heap.size := (Array.getElem?_eq_some_iff.1 hO.b3).1
theorem DW.drew (hO : DW W B w s h c n v a bad) (m : Nat) : DW (W.drewN m) B w s h c n v a bad := ⟨hO.b0, hO.b1, hO.b2, hO.b3, ⟨hO.bel.os, hO.bel.tape, hO.bel.output, hO.bel.size, hO.bel.block⟩⟩
theorem DW.setv (hO : DW W B w s h c n v a bad) (u : Value) : DW (W.setCell ⟨B + 1, 2, none⟩ u) B w s h c n u a bad :=
  ⟨(Below.heap_setCell _ _ _ _ (by show B ≠ B + 1; omega)).trans hO.b0, (heap_setCell_same _ _ _ _ _ _ hO.b1).trans rfl, (Below.heap_setCell _ _ _ _ (by show B + 1 + 1 ≠ B + 1; omega)).trans hO.b2, (Below.heap_setCell _ _ _ _ (by show B + 1 + 1 + 1 ≠ B + 1; omega)).trans hO.b3, hO.bel.setCell (p := ⟨B + 1, 2, none⟩) (by show B ≤ B + 1; omega) _⟩
end
theorem DW.start (w : World) (s : ByteArray) : DW ((((w.alloc (.cells #[.int .i64 0, .int .i64 0, .slice none 0 0] 39)).alloc (.cells #[.int .i64 0, .int .i64 0, .slice none 0 0] 39)).alloc (.cells #[.int .i64 0] 3)).alloc (.cells #[.string s, .int .i64 0, .bool false] 82)) w.heap.size w s 0 0 0 (.slice none 0 0) 0 false := by
  obtain ⟨W1, h1⟩ : ∃ X, X = w.alloc (.cells #[.int .i64 0, .int .i64 0, .slice none 0 0] 39) := ⟨_, rfl⟩
  obtain ⟨W2, h2⟩ : ∃ X, X = W1.alloc (.cells #[.int .i64 0, .int .i64 0, .slice none 0 0] 39) := ⟨_, rfl⟩
  obtain ⟨W3, h3⟩ : ∃ X, X = W2.alloc (.cells #[.int .i64 0] 3) := ⟨_, rfl⟩
  rw [← h1, ← h2, ← h3]
  have s1 : W1.heap.size = w.heap.size + 1 := by rw [h1, alloc_size]
  have s2 : W2.heap.size = w.heap.size + 1 + 1 := by rw [h2, alloc_size, s1]
  have s3 : W3.heap.size = w.heap.size + 1 + 1 + 1 := by rw [h3, alloc_size, s2]
  have k1 : W1.heap[w.heap.size]? = some (.cells #[.int .i64 0, .int .i64 0, .slice none 0 0] 39 (0, 0)) := by rw [h1]; exact alloc_at1 _ _
  have k2 : W2.heap[w.heap.size + 1]? = some (.cells #[.int .i64 0, .int .i64 0, .slice none 0 0] 39 (0, 0)) := by rw [h2, ← s1]; exact alloc_at1 _ _
  have k3 : W3.heap[w.heap.size + 1 + 1]? = some (.cells #[.int .i64 0] 3 (0, 0)) := by rw [h3, ← s2]; exact alloc_at1 _ _
  refine ⟨alloc_old _ _ (by rw [h3]; exact alloc_old _ _ (by rw [h2]; exact alloc_old _ _ k1)), alloc_old _ _ (by rw [h3]; exact alloc_old _ _ k2), alloc_old _ _ k3, by rw [← s3]; exact alloc_at1 _ _, ?_⟩
  have b1 := alloc_bel (Below.refl w.heap.size w) (Nat.le_refl _) (.cells #[.int .i64 0, .int .i64 0, .slice none 0 0] 39)
  rw [← h1] at b1
  have b2 := alloc_bel b1 (Nat.le_refl _) (.cells #[.int .i64 0, .int .i64 0, .slice none 0 0] 39)
  rw [← h2] at b2
  have b3 := alloc_bel b2 (Nat.le_refl _) (.cells #[.int .i64 0] 3)
  rw [← h3] at b3
  exact alloc_bel b3 (Nat.le_refl _) _
/-- what is decoded, as it lies -/
def DecOut (g : RW.Got) (e : Ending) (B : Nat) (w' : World) : Prop := match g with
  | .wire => e = .returned (.tuple #[.agg #[.int .i64 0, .int .i64 0, .slice none 0 0], .int .i64 10])
  | .bad => e = .returned (.tuple #[.agg #[.int .i64 0, .int .i64 0, .slice none 0 0], .int .i64 190])
  | .st s => ∃ v, e = .returned (.tuple #[.agg #[.int .i64 s.1, .int .i64 s.2.1, v], .int .i64 0]) ∧ LnsO w' B v s.2.2
end Go.Proofs.Ytillplhadimgmaa

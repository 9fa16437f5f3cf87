/-
  Package ballot: messages in memory; Same: what it returns; only new memory is written.
-/
import Derived.Test.YtcbckcojebanaaaDoorBal5
namespace Go.Proofs.YtcbckcojebanaaaDoor
open Go.RowKit
/-- at a statement's head: the world is forgotten but for what is said of it -/
theorem gen_world {P : Program} {c : Code} {Q : Exit → Act → World → Prop} {a : Act} {W : World} (R : World → Prop) (hR : R W) (h : ∀ W', R W' → Code.wp P c Q a W') : Code.wp P c Q a W := h W hR
theorem cell_at {w : World} {g : Nat} {cs : Array Value} {t : TypeId} {fr : Nat × Nat} (h : w.heap[g]? = some (.cells cs t fr)) (i : Nat) : w.cell? ⟨g, i, none⟩ = cs[i]? := by simp [World.cell?, h]
/-- variables that hold messages -/
structure MRows (l : List (Nat × Array Value)) (w W : World) : Prop where
  below : Below w.heap.size w W
  rows : ∀ x ∈ l, W.heap[x.1]? = some (.cells x.2 24 (0, 0))
section
variable {l : List (Nat × Array Value)} {w W W' : World}
theorem MRows.nil (hB : Below w.heap.size w W) : MRows [] w W := ⟨hB, by simp⟩
theorem MRows.lt (h : MRows l w W) (x : Nat × Array Value) (hx : x ∈ l) : x.1 < W.heap.size := (Array.getElem?_eq_some_iff.1 (h.rows x hx)).1
theorem MRows.next (h : MRows l w W) (hB : Below W.heap.size W W') : MRows l w W' :=
  ⟨h.below.trans (hB.mono h.below.size), fun x hx => (hB.block _ (h.lt x hx)).trans (h.rows x hx)⟩
theorem MRows.new (h : MRows l w W) (cs : Array Value) : MRows ((W.heap.size, cs) :: l) w (W.alloc (.cells cs 24)) :=
  ⟨h.below.alloc h.below.size _, fun x hx => by
    rcases List.mem_cons.1 hx with rfl | hx
    · exact heap_alloc_new _ _
    · exact (Below.heap_alloc _ _ _ (h.lt x hx)).trans (h.rows x hx)⟩
theorem MRows.drewN (h : MRows l w W) (n : Nat) : MRows l w (W.drewN n) := ⟨⟨h.below.os, h.below.tape, h.below.output, h.below.size, h.below.block⟩, h.rows⟩
theorem MRows.sub {l' : List (Nat × Array Value)} (h : MRows l w W) (hs : ∀ x ∈ l', x ∈ l) : MRows l' w W := ⟨h.below, fun x hx => h.rows x (hs x hx)⟩
theorem MRows.cell (h : MRows l w W) (b : Nat) (cs : Array Value) (hx : (b, cs) ∈ l) (j : Nat) : W.cell? ⟨b, j, none⟩ = cs[j]? := cell_at (h.rows _ hx) j
end
set_option maxRecDepth 100000 in
set_option maxHeartbeats 4000000 in
theorem same_any (n n2 : Nat → Int) (d d2 : ByteArray) (v v2 : Value) (l l2 : List ByteArray) (w : World) (hv : StrsV w v l) (hv2 : StrsV w v2 l2) (hl : l.length ≤ 140737488355328) (hl2 : l2.length ≤ 140737488355328) :
    Calls Tryd.prog 16 #[.agg (RW.mcells n d v), .agg (RW.mcells n2 d2 v2)] w fun e w' => e = .returned (.bool ((decide (l = l2) && decide (d = d2)) && RW.dec (∀ i, i < 6 → n i = n2 i))) ∧ Below w.heap.size w w' := by
  obtain ⟨q, hq⟩ : ∃ q, q = decide (l = l2) := ⟨_, rfl⟩
  obtain ⟨z, hz⟩ : ∃ q, q = RW.dec (∀ i, i < 6 → n i = n2 i) := ⟨_, rfl⟩
  have hE : ∀ W, Below w.heap.size w W → Calls Tryd.prog 54 #[v, v2] W (EqlPost q W) := fun W hB => by rw [hq]; exact equal_v (hv.next hB) (hv2.next hB) hl hl2
  have h6 := fun W => eql_six n n2 W
  rw [← hz] at h6
  rw [← hq, ← hz]
  have hEH := hide hE
  have h6H := hide h6
  obtain ⟨cs, hcs⟩ : ∃ cs, cs = RW.mcells n d v := ⟨_, rfl⟩
  obtain ⟨ds, hds⟩ : ∃ cs, cs = RW.mcells n2 d2 v2 := ⟨_, rfl⟩
  rw [← hcs, ← hds]
  have hcsH := hide hcs
  have hdsH := hide hds
  clear hq hz hE h6 hcs hds hv hv2
  go_enter Tryd.func16, Tryd.ntmps16
  go_upto_region 1 with fail
  obtain ⟨b1, hb1⟩ : ∃ b, b = w.heap.size := ⟨_, rfl⟩
  obtain ⟨b2, hb2⟩ : ∃ b, b = w.heap.size + 1 := ⟨_, rfl⟩
  have hR := (MRows.new (MRows.nil (Below.refl w.heap.size w)) cs).new ds
  rw [show (w.alloc (.cells cs 24)).heap.size = b2 by rw [hb2]; simp, ← hb1] at hR
  rw [← hb1] at ⊢
  rw [show b1 + 1 = b2 by omega]
  refine gen_world (MRows [(b2, ds), (b1, cs)] w) hR ?_
  clear hR hb1 hb2
  intro W hF
  have c7 : W.cell? ⟨b1, 7, none⟩ = some v := by rw [hF.cell b1 cs (by simp), hcsH.out]; rfl
  have e7 : W.cell? ⟨b2, 7, none⟩ = some v2 := by rw [hF.cell b2 ds (by simp), hdsH.out]; rfl
  have hEW := hide (hEH.out W hF.below)
  go_wp2_with fail
  refine hEW.out.mono ?_
  rintro e w2 ⟨rfl, k, rfl⟩
  have hF2 := hF.drewN k
  clear hF c7 e7 hEW
  generalize W.drewN k = w3 at hF2 ⊢
  have c0 : w3.cell? ⟨b1, 0, none⟩ = some (.int .i64 (n 0)) := by rw [hF2.cell b1 cs (by simp), hcsH.out]; rfl
  have e0 : w3.cell? ⟨b2, 0, none⟩ = some (.int .i64 (n2 0)) := by rw [hF2.cell b2 ds (by simp), hdsH.out]; rfl
  have c1 : w3.cell? ⟨b1, 1, none⟩ = some (.int .i64 (n 1)) := by rw [hF2.cell b1 cs (by simp), hcsH.out]; rfl
  have e1 : w3.cell? ⟨b2, 1, none⟩ = some (.int .i64 (n2 1)) := by rw [hF2.cell b2 ds (by simp), hdsH.out]; rfl
  have c2 : w3.cell? ⟨b1, 2, none⟩ = some (.int .i64 (n 2)) := by rw [hF2.cell b1 cs (by simp), hcsH.out]; rfl
  have e2 : w3.cell? ⟨b2, 2, none⟩ = some (.int .i64 (n2 2)) := by rw [hF2.cell b2 ds (by simp), hdsH.out]; rfl
  have c3 : w3.cell? ⟨b1, 3, none⟩ = some (.int .i64 (n 3)) := by rw [hF2.cell b1 cs (by simp), hcsH.out]; rfl
  have e3 : w3.cell? ⟨b2, 3, none⟩ = some (.int .i64 (n2 3)) := by rw [hF2.cell b2 ds (by simp), hdsH.out]; rfl
  have c4 : w3.cell? ⟨b1, 4, none⟩ = some (.int .i64 (n 4)) := by rw [hF2.cell b1 cs (by simp), hcsH.out]; rfl
  have e4 : w3.cell? ⟨b2, 4, none⟩ = some (.int .i64 (n2 4)) := by rw [hF2.cell b2 ds (by simp), hdsH.out]; rfl
  have c5 : w3.cell? ⟨b1, 5, none⟩ = some (.int .i64 (n 5)) := by rw [hF2.cell b1 cs (by simp), hcsH.out]; rfl
  have e5 : w3.cell? ⟨b2, 5, none⟩ = some (.int .i64 (n2 5)) := by rw [hF2.cell b2 ds (by simp), hdsH.out]; rfl
  have c6 : w3.cell? ⟨b1, 6, none⟩ = some (.string d) := by rw [hF2.cell b1 cs (by simp), hcsH.out]; rfl
  have e6 : w3.cell? ⟨b2, 6, none⟩ = some (.string d2) := by rw [hF2.cell b2 ds (by simp), hdsH.out]; rfl
  have h6 := h6H.out
  simp only [RW.six6] at h6
  have hBf := hide hF2.below
  clear hF2
  cases q
  · go_wp2
    go_ret
    exact ⟨rfl, hBf.out⟩
  · by_cases hd : d = d2
    · have hdH := hide (show decide (d = d2) = true from decide_eq_true hd)
      subst hd
      clear hdH
      go_wp2
      go_ret
      exact ⟨by first | rfl | (show Ending.returned (.bool z) = _; simp), hBf.out⟩
    · have hdH := hide (show decide (d = d2) = false from decide_eq_false hd)
      have x1 := RW.bytes_ne hd
      have hd2 := hide hd
      clear hd
      go_wp2
      go_ret
      exact ⟨by first | rfl | (rw [hdH.out] <;> rfl), hBf.out⟩
end Go.Proofs.YtcbckcojebanaaaDoor

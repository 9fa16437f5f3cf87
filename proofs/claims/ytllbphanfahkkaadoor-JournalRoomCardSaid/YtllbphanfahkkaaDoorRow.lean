/-
  A row of one-cell elements that the call itself made and of which no cell is frozen, whatever mark lies behind its end ([]byte(s) leaves one): an append of one element.
-/
import Derived.Test.YtllbphanfahkkaaDoorWireP
namespace Go.Proofs.YtllbphanfahkkaaDoor
open Go.RowKit
/-- the slice v, of n elements, lies over a row from block base on -/
def ownsB (w : World) (base : Nat) (e : TypeId) (v : Value) (n : Nat) (xs : List Value) : Prop :=
  xs.length = n ∧ ∃ g cap cur fz, v = .slice (some ⟨g, 0, none⟩) n cap ∧ base ≤ g ∧ w.heap[g]? = some (.cells cur e fz) ∧ (cur.size ≤ fz.1 ∨ fz.2 = 0) ∧ n ≤ cap ∧ cap ≤ maxLen ∧ cur.size = cap ∧ cur.toList.take n = xs
section
variable {P : Program} {w w' : World} {base : Nat} {e : TypeId} {v : Value} {n : Nat} {xs : List Value}
theorem ownsB.lt (h : ownsB w base e v n xs) : ∀ k, v.ownBlock = some k → base ≤ k ∧ k < w.heap.size := by
  obtain ⟨_, g, cap, cur, fz, rfl, hb, hg, _⟩ := h
  intro k hk
  obtain rfl : g = k := by simpa [Value.ownBlock] using hk
  exact ⟨hb, (Array.getElem?_eq_some_iff.1 hg).1⟩
theorem ownsB.form (h : ownsB w base e v n xs) : ∃ g cap, v = .slice (some ⟨g, 0, none⟩) n cap ∧ base ≤ g ∧ g < w.heap.size ∧ n ≤ cap ∧ cap ≤ maxLen := by
  obtain ⟨_, g, cap, cur, fz, rfl, hb, hg, _, h1, h2, _⟩ := h
  exact ⟨g, cap, rfl, hb, (Array.getElem?_eq_some_iff.1 hg).1, h1, h2⟩
theorem ownsB.kept {row : Option Nat} (h : ownsB w base e v n xs) (hg : w.grownBy w' row) (hne : v.ownBlock ≠ row) : ownsB w' base e v n xs := by
  obtain ⟨hl, g, cap, cur, fz, rfl, hb, hh, r⟩ := h
  exact ⟨hl, g, cap, cur, fz, rfl, hb, (hg.block g (Array.getElem?_eq_some_iff.1 hh).1 (by simpa [Value.ownBlock] using hne)).trans hh, r⟩
theorem ownsB.alloc (h : ownsB w base e v n xs) (o : Obj) : ownsB (w.alloc o) base e v n xs := by
  refine h.kept (World.grownBy_alloc w o none) ?_
  obtain ⟨g, cap, rfl, _⟩ := h.form
  simp [Value.ownBlock]
theorem ownsB.block (h : ownsB w base e v n xs) (hb : ∀ g, v.ownBlock = some g → w'.heap[g]? = w.heap[g]?) : ownsB w' base e v n xs := by
  obtain ⟨hl, g, cap, cur, fz, rfl, hbb, hh, r⟩ := h
  exact ⟨hl, g, cap, cur, fz, rfl, hbb, (hb g (by simp [Value.ownBlock])).trans hh, r⟩
theorem ownsB.cell (h : ownsB w base e v n xs) {g cap : Nat} (hv : v = .slice (some ⟨g, 0, none⟩) n cap) (j : Nat) (u : Value) (hj : xs[j]? = some u) : w.cell? ⟨g, j, none⟩ = some u := by
  obtain ⟨hl, g', cap', cur, fz, hv', _, hh, _, _, _, _, ht⟩ := h
  rw [hv] at hv'
  injection hv' with h1
  injection h1 with h1
  injection h1 with h1
  subst h1
  rw [cell_of_row w g j cur e fz hh]
  rw [← ht, List.getElem?_take] at hj
  split at hj
  · simpa using hj
  · cases hj
theorem run_append_room1 (t ty : TypeId) (i : TypeInfo) (ht : P.underlying t = some (.slice e)) (hi : P.info? e = some i) (h1 : i.size = 1)
    (g cap : Nat) (a : Addr) (c : Nat) (u x : Value) (hu : w.cell? a = some u) (hone : u.oneCell' = true) (hroom : n + 1 ≤ cap) (hx : w.cell? ⟨g, n, none⟩ = some x) (hf : w.frozen? ⟨g, n, none⟩ = false) :
    (Builtin.append_ #[t, t] ty #[.slice (some ⟨g, 0, none⟩) n cap, .slice (some a) 1 c]).run P w = .ok (.slice (some ⟨g, 0, none⟩) (n + 1) cap) (w.setCell ⟨g, n, none⟩ u) := by
  have hfc := run_firstCells_some (P := P) w i.size 1 a 1 c [u] (by simp [h1]) (by intro j v hj; match j, hj with | 0, hj => simp at hj; subst hj; simpa [Addr.add] using hu)
  have hadd : (⟨g, 0, none⟩ : Addr).add n = ⟨g, n, none⟩ := by unfold Addr.add; split <;> simp_all
  have hadd0 : (⟨g, n, none⟩ : Addr).add 0 = ⟨g, n, none⟩ := by simp [Addr.add]
  have hst : (store ⟨g, n, none⟩ u).run P w = .ok () (w.setCell ⟨g, n, none⟩ u) := by
    rw [run_store P w _ u _ hone, hx]; simp [hf]
  have hr : ((n : Int) + 1 ≤ cap) := by omega
  simp only [h1] at hfc
  simp [Builtin.append_, run_underlying ht, sizeOf, typeInfo, hi, h1, Builtin.lenOf, hroom, hfc, hadd, storeCells, hadd0, hst]
theorem ownsB.setNext (h : ownsB w base e v n xs) {g cap : Nat} (hv : v = .slice (some ⟨g, 0, none⟩) n cap) (hr : n + 1 ≤ cap) (u : Value) : ownsB (w.setCell ⟨g, n, none⟩ u) base e (.slice (some ⟨g, 0, none⟩) (n + 1) cap) (n + 1) (xs ++ [u]) := by
  obtain ⟨hl, g', cap', cur, fz, hv', hb, hh, hfz, hn, hm, hc, ht⟩ := h
  rw [hv] at hv'
  injection hv' with h1 h2 h3
  injection h1 with h1
  injection h1 with h1
  subst h1; subst h3
  refine ⟨by simp [hl], g, cap, cur.setIfInBounds n u, fz, rfl, hb, ?_, by simpa using hfz, hr, hm, by simpa using hc, ?_⟩
  · simp [World.setCell, Array.getElem?_modify, hh]
  · rw [Array.toList_setIfInBounds, List.take_succ_eq_append_getElem (by simp; omega)]
    simp
    rw [List.take_set_of_le (Nat.le_refl _), ht]
theorem ownsB.cellNext (h : ownsB w base e v n xs) {g cap : Nat} (hv : v = .slice (some ⟨g, 0, none⟩) n cap) (hr : n + 1 ≤ cap) : (∃ x, w.cell? ⟨g, n, none⟩ = some x) ∧ w.frozen? ⟨g, n, none⟩ = false := by
  obtain ⟨hl, g', cap', cur, fz, hv', hb, hh, hfz, hn, hm, hc, ht⟩ := h
  rw [hv] at hv'
  injection hv' with h1 h2 h3
  injection h1 with h1
  injection h1 with h1
  subst h1; subst h3
  have hlt : n < cur.size := by omega
  refine ⟨⟨cur[n], by rw [cell_of_row w g n cur e fz hh, Array.getElem?_eq_getElem hlt]⟩, ?_⟩
  obtain ⟨lo, hi⟩ := fz
  simp only [World.frozen?, hh, Bool.and_eq_false_iff, decide_eq_false_iff_not]
  simp only at hfz
  omega
theorem run_append_B (t ty : TypeId) (i : TypeInfo) (z : Value) (bytes : Nat) (ht : P.underlying t = some (.slice e)) (hi : P.info? e = some i) (hz : i.zero = some z) (h1 : i.size = 1) (hby : i.bytes = bytes) (hzs : z.cells.size = 1)
    (h : ownsB w base e v n xs) (a : Addr) (c : Nat) (u : Value) (hu : w.cell? a = some u) (hone : u.oneCell' = true) (hn : n + 1 ≤ maxLen) (hbytes : (n + 1) * bytes ≤ 140737488355328) (hbase : base ≤ w.heap.size) :
    ∃ v' w', (Builtin.append_ #[t, t] ty #[v, .slice (some a) 1 c]).run P w = .ok v' w' ∧ ownsB w' base e v' (n + 1) (xs ++ [u]) ∧ w.grownBy w' v.ownBlock := by
  subst hby
  obtain ⟨g, cap, hv, hb, hgl, hnc, hcm⟩ := h.form
  by_cases hroom : n + 1 ≤ cap
  · obtain ⟨⟨x, hx⟩, hf⟩ := h.cellNext hv hroom
    have hr := run_append_room1 (P := P) (w := w) (n := n) t ty i ht hi h1 g cap a c u x hu hone hroom hx hf
    rw [← hv] at hr
    refine ⟨_, _, hr, h.setNext hv hroom u, ⟨rfl, rfl, rfl, by simp [World.setCell], fun k _ hk => Below.heap_setCell _ _ _ _ (by intro e'; exact hk (by rw [hv, e']; rfl))⟩⟩
  · have hsmall : n + 1 ≤ 9223372036854775807 := by simp only [maxLen] at hn; omega
    have hnews : ∀ j x, [u][j]? = some x → w.cell? (a.add j) = some x := by
      intro j x hj; match j, hj with | 0, hj => simp at hj; subst hj; simpa [Addr.add] using hu
    have holds : ∀ j x, xs[j]? = some x → w.cell? ((⟨g, 0, none⟩ : Addr).add j) = some x := by
      intro j x hj
      have hadd : (⟨g, 0, none⟩ : Addr).add j = ⟨g, j, none⟩ := by unfold Addr.add; split <;> simp_all
      rw [hadd]; exact h.cell hv j x hj
    have hr := run_append_grow (P := P) w t ty e i z ht hi hz ⟨g, 0, none⟩ n cap xs (by rw [h1]; simpa using h.1) holds a 1 c [u] (by simp [h1]) hnews (by omega) (by omega) (growslice_fits (by omega) hbytes)
    rw [← hv] at hr
    have hge := grownCap_ge w (n + 1) cap e
    refine ⟨_, _, hr, ⟨by simp [h.1], w.heap.size, _, _, (0, 0), rfl, hbase, heap_alloc_new w.drew _, .inr rfl, hge, grownCap_le_maxLen w (n + 1) cap e hn, ?_, ?_⟩, ⟨rfl, rfl, rfl, by simp, fun k hk _ => heap_alloc_old w.drew _ k hk⟩⟩
    · simp only [Array.size_append, List.size_toArray, size_zeroCells, hzs, h.1, List.length_singleton]; omega
    · simp only [Array.toList_append, List.append_assoc]
      rw [← List.append_assoc]
      exact List.take_left' (by simp [h.1])
theorem wpList_append_B {ops : Array Oper} {rest : List Oper} {o : Oper} {a : Act} {Q : Exit → Act → World → Prop} (hgd : o.guard = none) (s x : Operand) (t : TypeId)
    (ho : o.op = .call { callee := .builtin .append, args := #[s, x], argTypes := #[t, t] })
    (base : Nat) (e : TypeId) (i : TypeInfo) (z : Value) (bytes : Nat) (ht : P.underlying t = some (.slice e)) (hi : P.info? e = some i) (hz : i.zero = some z) (h1 : i.size = 1) (hby : i.bytes = bytes) (hzs : z.cells.size = 1)
    (v : Value) (n : Nat) (xs : List Value) (hs : a.eval s = v) (h : ownsB w base e v n xs)
    (ad : Addr) (c : Nat) (u : Value) (hx : a.eval x = .slice (some ad) 1 c) (hu : w.cell? ad = some u) (hone : u.oneCell' = true) (hn : n + 1 ≤ maxLen) (hbytes : (n + 1) * bytes ≤ 140737488355328) (hbase : base ≤ w.heap.size)
    (k : ∀ v' w', ownsB w' base e v' (n + 1) (xs ++ [u]) → w.grownBy w' v.ownBlock → wpList P ops Q rest (a.put o.dst v') w') : wpList P ops Q (o :: rest) a w :=
  wpList_plain hgd fun _ hK => by
    obtain ⟨v', w', hr, h2, h3⟩ := run_append_B (P := P) t o.type i z bytes ht hi hz h1 hby hzs h ad c u hu hone hn hbytes hbase
    unfold Oper.wp execOp
    simp only [ho, resolve, invoke, builtin, Sem.run_bind, Sem.run_pure, Result.andThen_ok, List.map_toArray, List.map_cons, List.map_nil, hs, hx, hr]
    exact hK _ _ (k v' w' h2 h3)
/-- []byte(s) -/
theorem ownsB_bytes (w : World) (s : ByteArray) (e : TypeId) (hs : s.size ≤ maxLen) :
    ownsB (w.drew.alloc (.cells (bytesRow s (grownCap w s.size 0 e)) e ((bytesRow s (grownCap w s.size 0 e)).size, (bytesRow s (grownCap w s.size 0 e)).size + 1))) w.heap.size e
      (.slice (some ⟨w.heap.size, 0, none⟩) s.size (grownCap w s.size 0 e)) s.size (RW.bytesV s.data.toList) := by
  have hge := grownCap_ge w s.size 0 e
  have hsz : (bytesRow s (grownCap w s.size 0 e)).size = grownCap w s.size 0 e := by
    simp only [bytesRow]; simp; have : s.data.size = s.size := rfl; omega
  refine ⟨by simp [RW.bytesV], w.heap.size, _, _, _, rfl, Nat.le_refl _, heap_alloc_new w.drew _, .inl (Nat.le_refl _), hge, grownCap_le_maxLen w s.size 0 e hs, hsz, ?_⟩
  apply List.ext_getElem?
  intro j
  rw [List.getElem?_take]
  by_cases hj : j < s.size
  · rw [if_pos hj, Array.getElem?_toList, bytesRow_at s _ j hj, RW.bytesV_get _ j (by simpa using hj)]; simp
  · rw [if_neg hj, List.getElem?_eq_none (by rw [RW.bytesV_length, Array.length_toList]; exact Nat.le_of_not_lt hj)]
end
end Go.Proofs.YtllbphanfahkkaaDoor

/-
  An append of a string's bytes to a row that the call itself made (ownsB).
-/
import Derived.Deep.AppendSrc
import Derived.Test.YtcbckcojebanaaaDoorMB
namespace Go.Proofs.YtcbckcojebanaaaDoor
open Go.RowKit
section
variable {P : Program} {w w' : World} {base : Nat} {e : TypeId} {v : Value} {n : Nat} {xs : List Value}
theorem ownsB.setMore {g cap : Nat} : ∀ (vs : List Value) (w : World) (n : Nat) (xs : List Value), ownsB w base e (.slice (some ⟨g, 0, none⟩) n cap) n xs → n + vs.length ≤ cap →
    ownsB (w.setCells g n vs) base e (.slice (some ⟨g, 0, none⟩) (n + vs.length) cap) (n + vs.length) (xs ++ vs) ∧ w.grownBy (w.setCells g n vs) (some g)
  | [], w, n, xs, h, _ => ⟨by simpa [World.setCells] using h, ⟨rfl, rfl, rfl, Nat.le_refl _, fun _ _ _ => rfl⟩⟩
  | u :: vs, w, n, xs, h, hl => by
    rw [List.length_cons] at hl
    have h1 := h.setNext rfl (by omega) u
    obtain ⟨h2, h3⟩ := ownsB.setMore vs _ (n + 1) _ h1 (by omega)
    have e1 : n + (u :: vs).length = n + 1 + vs.length := by rw [List.length_cons]; omega
    have e2 : xs ++ u :: vs = xs ++ [u] ++ vs := by simp
    rw [e1, e2]
    have h4 : w.grownBy (w.setCell ⟨g, n, none⟩ u) (some g) := ⟨rfl, rfl, rfl, by simp [World.setCell], fun k _ hk => Below.heap_setCell _ _ _ _ (by intro e'; exact hk (by rw [e']))⟩
    exact ⟨h2, World.grownBy.trans h4 h3⟩
theorem ownsB.cellsMore {g cap : Nat} (h : ownsB w base e (.slice (some ⟨g, 0, none⟩) n cap) n xs) (j : Nat) (hj : n + j < cap) : (w.cell? ⟨g, n + j, none⟩).isSome = true ∧ w.frozen? ⟨g, n + j, none⟩ = false := by
  obtain ⟨hl, g', cap', cur, fz, hv', hb, hh, hfz, hn, hm, hc, ht⟩ := h
  injection hv' with h1 h2 h3
  injection h1 with h1
  injection h1 with h1
  subst h1; subst h3
  have hlt : n + j < cur.size := by omega
  refine ⟨by rw [cell_of_row w g (n + j) cur e fz hh, Array.getElem?_eq_getElem hlt]; rfl, ?_⟩
  obtain ⟨lo, hi⟩ := fz
  simp only [World.frozen?, hh, Bool.and_eq_false_iff, decide_eq_false_iff_not]
  simp only at hfz
  omega
theorem run_append_Bs (t u ty : TypeId) (i : TypeInfo) (z : Value) (ht : P.underlying t = some (.slice e)) (hu : P.underlying u = some .string) (hi : P.info? e = some i) (hz : i.zero = some z) (h1 : i.size = 1) (hby : i.bytes = 1) (hzs : z.cells.size = 1)
    (h : ownsB w base e v n xs) (s : ByteArray) (hn : n + s.size ≤ maxLen) (hbytes : n + s.size ≤ 140737488355328) (hbase : base ≤ w.heap.size) :
    ∃ v' w', (Builtin.append_ #[t, u] ty #[v, .string s]).run P w = .ok v' w' ∧ ownsB w' base e v' (n + s.size) (xs ++ Go.byteCells s) ∧ w.grownBy w' v.ownBlock := by
  obtain ⟨g, cap, hv, hb, hgl, hnc, hcm⟩ := h.form
  subst hv
  have hbl : (Go.byteCells s).length = s.size := byteCells_length s
  have hS : Src P i.size u (.string s) s.size (Go.byteCells s) w := by rw [h1]; exact Src.ofString w hu s
  by_cases hroom : n + s.size ≤ cap
  · have hr := run_append_room_src (P := P) w t u ty e i ht hi g 0 n cap (.string s) s.size (Go.byteCells s) hS hroom
      (fun j hj => by rw [h1, Nat.mul_one, Nat.zero_add]; exact (h.cellsMore j (by omega)).1)
      (fun j hj => by rw [h1, Nat.mul_one, Nat.zero_add]; exact (h.cellsMore j (by omega)).2)
    rw [h1, Nat.mul_one, Nat.zero_add] at hr
    obtain ⟨h2, h3⟩ := ownsB.setMore (Go.byteCells s) w n xs h (by omega)
    rw [hbl] at h2
    exact ⟨_, _, hr, h2, h3⟩
  · have hsmall : n + s.size ≤ 9223372036854775807 := by simp only [maxLen] at hn; omega
    have hadd : ∀ j, (⟨g, 0, none⟩ : Addr).add j = ⟨g, j, none⟩ := fun j => by unfold Addr.add; split <;> simp_all
    have hfc := run_firstCells_some (P := P) w.drew i.size n ⟨g, 0, none⟩ n cap xs (by rw [h1, Nat.mul_one]; exact h.1) (fun j x hj => by rw [hadd]; exact h.cell rfl j x hj)
    have hr := run_append_grow_src (P := P) w t u ty e i z ht hi hz (some ⟨g, 0, none⟩) n cap xs hfc (.string s) s.size (Go.byteCells s) hS (by omega) (by omega) (by rw [hby]; exact growslice_fits (by omega) (by omega))
    have hge := grownCap_ge w (n + s.size) cap e
    refine ⟨_, _, hr, ⟨by simp [h.1, hbl], w.heap.size, _, _, (0, 0), rfl, hbase, heap_alloc_new w.drew _, .inr rfl, hge, grownCap_le_maxLen w (n + s.size) cap e hn, ?_, ?_⟩, ⟨rfl, rfl, rfl, by simp, fun k hk _ => heap_alloc_old w.drew _ hk⟩⟩
    · simp only [Array.size_append, List.size_toArray, size_zeroCells, hzs, List.length_append, h.1, hbl]; omega
    · simp only [Array.toList_append, List.append_assoc]
      rw [← List.append_assoc]
      exact List.take_left' (by simp [h.1, hbl])
theorem wpList_append_Bs {ops : Array Oper} {rest : List Oper} {o : Oper} {a : Act} {Q : Exit → Act → World → Prop} (hgd : o.guard = none) (s x : Operand) (t u : TypeId)
    (ho : o.op = .call { callee := .builtin .append, args := #[s, x], argTypes := #[t, u] })
    (base : Nat) (e : TypeId) (i : TypeInfo) (z : Value) (ht : P.underlying t = some (.slice e)) (hu : P.underlying u = some .string) (hi : P.info? e = some i) (hz : i.zero = some z) (h1 : i.size = 1) (hby : i.bytes = 1) (hzs : z.cells.size = 1)
    (v : Value) (n : Nat) (xs : List Value) (hs : a.eval s = v) (h : ownsB w base e v n xs) (str : ByteArray) (hx : a.eval x = .string str)
    (hn : n + str.size ≤ maxLen) (hbytes : n + str.size ≤ 140737488355328) (hbase : base ≤ w.heap.size)
    (k : ∀ v' w', ownsB w' base e v' (n + str.size) (xs ++ Go.byteCells str) → w.grownBy w' v.ownBlock → wpList P ops Q rest (a.put o.dst v') w') : wpList P ops Q (o :: rest) a w :=
  wpList_plain hgd fun _ hK => by
    obtain ⟨v', w', hr, h2, h3⟩ := run_append_Bs (P := P) t u o.type i z ht hu hi hz h1 hby hzs h str hn hbytes hbase
    unfold Oper.wp execOp
    simp only [ho, resolve, invoke, builtin, Sem.run_bind, Sem.run_pure, Result.andThen_ok, List.map_toArray, List.map_cons, List.map_nil, hs, hx, hr]
    exact hK _ _ (k v' w' h2 h3)
end
end Go.Proofs.YtcbckcojebanaaaDoor

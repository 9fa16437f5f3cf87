/-
  Rows of structs: values that are slices of elements of several cells, read and made by the call itself; whole elements loaded and stored: no condition beyond each theorem's own premises.
-/
import Derived.WalkKit
import Derived.WalkLawsBesides
import Derived.Deep.OwnRows
import Derived.Deep.MidRow
import Derived.Deep.DeepCutAuto
import Derived.Deep.QuietTactic
import Derived.BigQuiet
import Derived.Deep.RegionWith
import Derived.BigRegion
import Derived.Maps.AppendAt
import Derived.Test.YtllbphanfahkkaaDoorWireP
import Derived.Test.YtllbphanfahkkaaDoorStage
namespace Go.Proofs.YtllbphanfahkkaaDoor
open Go.RowKit
/-- at a statement's head: the world is forgotten but for what is said of it -/
theorem gen_w {P : Program} {c : Code} {Q : Exit → Act → World → Prop} {a : Act} {W : World} (R : World → Prop) (hR : R W) (h : ∀ W', R W' → Code.wp P c Q a W') : Code.wp P c Q a W := h W hR
theorem cellAt {w : World} {g : Nat} {cs : Array Value} {t : TypeId} {fr : Nat × Nat} (h : w.heap[g]? = some (.cells cs t fr)) (i : Nat) : w.cell? ⟨g, i, none⟩ = cs[i]? := by simp [World.cell?, h]
theorem newAt {w : World} {o : Obj} {g : Nat} (h : g = w.heap.size) : (w.alloc o).heap[g]? = some o := h ▸ heap_alloc_new w o
theorem setRowAlloc (w : World) (old cs : Array Value) (t : TypeId) : (w.alloc (.cells old t)).setRow w.heap.size cs = w.alloc (.cells cs t) := by
  simp only [World.setRow, World.alloc]
  congr 1
  apply Array.ext_getElem?
  intro i
  rw [Array.getElem?_modify]
  by_cases h : w.heap.size = i
  · subst h; simp
  · rw [if_neg h, Array.getElem?_push, Array.getElem?_push, if_neg (Ne.symm h), if_neg (Ne.symm h)]
theorem belowSetRow {B : Nat} {a w : World} (h : Below B a w) {g : Nat} (hg : B ≤ g) (cs : Array Value) : Below B a (w.setRow g cs) :=
  ⟨h.os, h.tape, h.output, by simpa [World.setRow] using h.size, fun k hk => by
    rw [← h.block k hk]
    simp only [World.setRow, Array.getElem?_modify]
    rw [if_neg (by omega)]⟩
/-- a whole row goes into a variable that was just made -/
theorem wpListStoreNew {P : Program} {ops : Array Oper} {rest : List Oper} {o : Oper} {a : Act} {w : World} {Q : Exit → Act → World → Prop} (hgd : o.guard = none) (ty : TypeId) (x y : Operand) (ho : o.op = .store ty x y)
    (cells : Array Value) (hx : a.eval x = .pointer (some ⟨w.heap.size, 0, none⟩)) (hy : a.eval y = .agg cells)
    (t : TypeId) (old : Array Value) (hi : (P.info? ty).map (·.size) = some cells.size) (hold : old.size = cells.size) (h1 : cells.all (·.oneCell') = true)
    (h : wpList P ops Q rest (a.put o.dst undef) (w.alloc (.cells cells t))) : wpList P ops Q (o :: rest) a (w.alloc (.cells old t)) := by
  refine wpList_store_row hgd ty x y ho w.heap.size cells hx hy t old (heap_alloc_new w _) hi hold h1 ?_
  rw [setRowAlloc]; exact h
/-! slices of elements of k cells -/
section
variable {α : Type} {k : Nat} {enc : α → List Value} {W W' : World} {v : Value} {l : List α}
/-- v is a slice that holds the elements of l, each in k cells -/
def RowV (k : Nat) (enc : α → List Value) (W : World) (v : Value) (l : List α) : Prop :=
  ∃ a cap, v = .slice a l.length cap ∧ l.length ≤ cap ∧ (l = [] ∨ ∃ b o, a = some ⟨b, o, none⟩ ∧ b < W.heap.size ∧ ∀ i x, l[i]? = some x → W.rangeAt b (o + i * k) (enc x))
theorem RowV.next (h : RowV k enc W v l) (hB : Below W.heap.size W W') : RowV k enc W' v l := by
  obtain ⟨a, cap, hv, hk, h⟩ := h
  refine ⟨a, cap, hv, hk, h.imp id fun ⟨b, o, ha, hb, hc⟩ => ⟨b, o, ha, Nat.lt_of_lt_of_le hb hB.size, fun i x hi j u hj => ?_⟩⟩
  exact (World.cell?_of_block (a := ⟨b, o + i * k + j, none⟩) (hB.block _ hb)).trans (hc i x hi j u hj)
theorem RowV.nil (W : World) : RowV k enc W (.slice none 0 0) ([] : List α) := ⟨none, 0, rfl, Nat.le_refl _, .inl rfl⟩
/-- where the elements lie -/
theorem RowV.at (h : RowV k enc W v l) (hl : l ≠ []) : ∃ b o cap, v = .slice (some ⟨b, o, none⟩) l.length cap ∧ l.length ≤ cap ∧ b < W.heap.size ∧ ∀ i x, l[i]? = some x → W.rangeAt b (o + i * k) (enc x) := by
  obtain ⟨a, cap, rfl, hk, h⟩ := h
  rcases h with rfl | ⟨b, o, rfl, hb, hc⟩
  · exact absurd rfl hl
  · exact ⟨b, o, cap, rfl, hk, hb, hc⟩
/-- the cells of a list of elements -/
def rowCells (enc : α → List Value) (l : List α) : List Value := l.flatMap enc
theorem rowCells_len (hk : ∀ x, (enc x).length = k) : ∀ l : List α, (rowCells enc l).length = l.length * k
  | [] => by simp [rowCells]
  | x :: l => by
    have := rowCells_len hk l
    unfold rowCells at this ⊢
    rw [List.flatMap_cons, List.length_append, hk, this, List.length_cons, Nat.succ_mul, Nat.add_comm]
theorem rowCells_get (hk : ∀ x, (enc x).length = k) : ∀ (l : List α) (i : Nat) (x : α), l[i]? = some x → ∀ j u, (enc x)[j]? = some u → (rowCells enc l)[i * k + j]? = some u
  | [], i, x, h, _, _, _ => by simp at h
  | y :: l, 0, x, h, j, u, hj => by
    simp at h
    subst h
    have hlt : j < (enc y).length := (List.getElem?_eq_some_iff.1 hj).1
    unfold rowCells
    rw [List.flatMap_cons, Nat.zero_mul, Nat.zero_add, List.getElem?_append_left hlt]
    exact hj
  | y :: l, i + 1, x, h, j, u, hj => by
    have := rowCells_get hk l i x (by simpa using h) j u hj
    unfold rowCells at this ⊢
    rw [List.flatMap_cons, List.getElem?_append_right (by rw [hk, Nat.succ_mul]; omega), hk, show (i + 1) * k + j - k = i * k + j by rw [Nat.succ_mul]; omega]
    exact this
theorem rowCells_append (l m : List α) : rowCells enc (l ++ m) = rowCells enc l ++ rowCells enc m := by simp [rowCells]
/-- a row of the call's own is such a slice -/
theorem rowV_own {B : Nat} {e : TypeId} {n : Nat} (hk : ∀ x, (enc x).length = k) (hk0 : 0 < k) (h : W.ownsRow B e k v n (rowCells enc l)) : RowV k enc W v l := by
  obtain ⟨h1, h2⟩ := h
  rw [rowCells_len hk] at h1
  have hn : n = l.length := (Nat.eq_of_mul_eq_mul_right hk0 h1).symm
  subst hn
  rcases h2 with ⟨rfl, h0⟩ | ⟨g, cap, cur, rfl, _, hg, hc, _, _, ht⟩
  · have hl := List.length_eq_zero_iff.1 h0
    subst hl
    exact RowV.nil W
  · refine ⟨some ⟨g, 0, none⟩, cap, rfl, hc, .inr ⟨g, 0, rfl, (Array.getElem?_eq_some_iff.1 hg).1, fun i x hi j u hj => ?_⟩⟩
    have h3 := rowCells_get hk l i x hi j u hj
    rw [← ht, List.getElem?_take] at h3
    split at h3
    · rw [cellAt hg, Nat.zero_add, ← Array.getElem?_toList]; exact h3
    · cases h3
/-- what the call's own row says of one element -/
theorem own_range {B : Nat} {e : TypeId} {n : Nat} {g cap : Nat} {xs : List Value} (h : W.ownsRow B e k (.slice (some ⟨g, 0, none⟩) n cap) n xs) (o : Nat) (cs : List Value) (hx : ∀ j u, cs[j]? = some u → xs[o + j]? = some u) : W.rangeAt g o cs := by
  obtain ⟨h1, h2⟩ := h
  rcases h2 with ⟨hv, _⟩ | ⟨g', cap', cur, hv, _, hg, hc, _, _, ht⟩
  · cases hv
  · cases hv
    intro j u hj
    have h3 := hx j u hj
    rw [← ht, List.getElem?_take] at h3
    split at h3
    · rw [cellAt hg, ← Array.getElem?_toList]; exact h3
    · cases h3
end
/-! whole elements, under names that a walk does not open -/
def ldRow (T : TypeId) (x : Value) : Sem Value := Instr.loadAt T x
def stRow (T : TypeId) (x y : Value) : Sem Unit := Instr.storeAt T x y
theorem ldRow_mid {P : Program} {W : World} {b o : Nat} {ty : TypeId} {cs : List Value} {d : TypeDesc} (hc : W.rangeAt b o cs) (hu : P.underlying ty = some d) (hd : d.isRow = true) (hi : (P.info? ty).map (·.size) = some cs.length) :
    (ldRow ty (.pointer (some ⟨b, o, none⟩))).run P W = .ok (.agg cs.toArray) W := run_loadAt_mid W b o ty cs d hc hu hd hi
theorem stRow_mid {P : Program} {W : World} {b o : Nat} {ty : TypeId} {cells : Array Value} (ht : W.there b o cells.size) (hi : (P.info? ty).map (·.size) = some cells.size) (h1 : cells.all (·.oneCell') = true) :
    (stRow ty (.pointer (some ⟨b, o, none⟩)) (.agg cells)).run P W = .ok () (W.setCells b o cells.toList) := run_storeAt_mid W b o ty cells ht hi h1
end Go.Proofs.YtllbphanfahkkaaDoor

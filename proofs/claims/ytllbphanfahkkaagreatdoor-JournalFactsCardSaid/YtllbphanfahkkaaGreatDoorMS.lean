/-
  Rows of structs: values that are slices of elements of several cells, read and made by the call itself; whole elements loaded and stored: no condition beyond each theorem's own premises.
-/
import Derived.WalkKit
import Derived.WalkLawsBesides
import Derived.Deep.OwnRows
import Derived.Deep.MidRow
import Derived.Deep.DeepCutAuto
import Derived.Deep.QuietTactic
import Derived.BigQuiet
import Derived.Deep.RegionWith
import Derived.BigRegion
import Derived.Maps.AppendAt
import Derived.Test.YtllbphanfahkkaaGreatDoorMA
import Derived.Test.YtllbphanfahkkaaGreatDoorMY0
import Derived.Lib.SliceRun
import Derived.Deep.AppendSrc
namespace Go.Proofs.YtllbphanfahkkaaGreatDoor
open Go.RowKit
/-- at a statement's head: the world is forgotten but for what is said of it -/
theorem gen_w {P : Program} {c : Code} {Q : Exit → Act → World → Prop} {a : Act} {W : World} (R : World → Prop) (hR : R W) (h : ∀ W', R W' → Code.wp P c Q a W') : Code.wp P c Q a W := h W hR
theorem cellAt {w : World} {g : Nat} {cs : Array Value} {t : TypeId} {fr : Nat × Nat} (h : w.heap[g]? = some (.cells cs t fr)) (i : Nat) : w.cell? ⟨g, i, none⟩ = cs[i]? := by simp [World.cell?, h]
theorem newAt {w : World} {o : Obj} {g : Nat} (h : g = w.heap.size) : (w.alloc o).heap[g]? = some o := h ▸ heap_alloc_new w o
theorem setRowAlloc (w : World) (old cs : Array Value) (t : TypeId) : (w.alloc (.cells old t)).setRow w.heap.size cs = w.alloc (.cells cs t) := by
  simp only [World.setRow, World.alloc]
  congr 1
  apply Array.ext_getElem?
  intro i
  rw [Array.getElem?_modify]
  by_cases h : w.heap.size = i
  · subst h; simp
  · rw [if_neg h, Array.getElem?_push, Array.getElem?_push, if_neg (Ne.symm h), if_neg (Ne.symm h)]
theorem belowSetRow {B : Nat} {a w : World} (h : Below B a w) {g : Nat} (hg : B ≤ g) (cs : Array Value) : Below B a (w.setRow g cs) :=
  ⟨h.os, h.tape, h.output, by simpa [World.setRow] using h.size, fun k hk => by
    rw [← h.block k hk]
    simp only [World.setRow, Array.getElem?_modify]
    rw [if_neg (by omega)]⟩
/-- a whole row goes into a variable that was just made -/
theorem wpListStoreNew {P : Program} {ops : Array Oper} {rest : List Oper} {o : Oper} {a : Act} {w : World} {Q : Exit → Act → World → Prop} (hgd : o.guard = none) (ty : TypeId) (x y : Operand) (ho : o.op = .store ty x y)
    (cells : Array Value) (hx : a.eval x = .pointer (some ⟨w.heap.size, 0, none⟩)) (hy : a.eval y = .agg cells)
    (t : TypeId) (old : Array Value) (hi : (P.info? ty).map (·.size) = some cells.size) (hold : old.size = cells.size) (h1 : cells.all (·.oneCell') = true)
    (h : wpList P ops Q rest (a.put o.dst undef) (w.alloc (.cells cells t))) : wpList P ops Q (o :: rest) a (w.alloc (.cells old t)) := by
  refine wpList_store_row hgd ty x y ho w.heap.size cells hx hy t old (heap_alloc_new w _) hi hold h1 ?_
  rw [setRowAlloc]; exact h
/-! slices of elements of k cells -/
section
variable {α : Type} {k : Nat} {enc : α → List Value} {W W' : World} {v : Value} {l : List α}
/-- v is a slice that holds the elements of l, each in k cells -/
def RowV (k : Nat) (enc : α → List Value) (W : World) (v : Value) (l : List α) : Prop :=
  ∃ a cap, v = .slice a l.length cap ∧ l.length ≤ cap ∧ (l = [] ∨ ∃ b o, a = some ⟨b, o, none⟩ ∧ b < W.heap.size ∧ ∀ i x, l[i]? = some x → W.rangeAt b (o + i * k) (enc x))
theorem RowV.next (h : RowV k enc W v l) (hB : Below W.heap.size W W') : RowV k enc W' v l := by
  obtain ⟨a, cap, hv, hk, h⟩ := h
  refine ⟨a, cap, hv, hk, h.imp id fun ⟨b, o, ha, hb, hc⟩ => ⟨b, o, ha, Nat.lt_of_lt_of_le hb hB.size, fun i x hi j u hj => ?_⟩⟩
  exact (World.cell?_of_block (a := ⟨b, o + i * k + j, none⟩) (hB.block _ hb)).trans (hc i x hi j u hj)
theorem RowV.nil (W : World) : RowV k enc W (.slice none 0 0) ([] : List α) := ⟨none, 0, rfl, Nat.le_refl _, .inl rfl⟩
/-- where the elements lie -/
theorem RowV.at (h : RowV k enc W v l) (hl : l ≠ []) : ∃ b o cap, v = .slice (some ⟨b, o, none⟩) l.length cap ∧ l.length ≤ cap ∧ b < W.heap.size ∧ ∀ i x, l[i]? = some x → W.rangeAt b (o + i * k) (enc x) := by
  obtain ⟨a, cap, rfl, hk, h⟩ := h
  rcases h with rfl | ⟨b, o, rfl, hb, hc⟩
  · exact absurd rfl hl
  · exact ⟨b, o, cap, rfl, hk, hb, hc⟩
/-- the cells of a list of elements -/
def rowCells (enc : α → List Value) (l : List α) : List Value := l.flatMap enc
theorem rowCells_len (hk : ∀ x, (enc x).length = k) : ∀ l : List α, (rowCells enc l).length = l.length * k
  | [] => by simp [rowCells]
  | x :: l => by
    have := rowCells_len hk l
    unfold rowCells at this ⊢
    rw [List.flatMap_cons, List.length_append, hk, this, List.length_cons, Nat.succ_mul, Nat.add_comm]
theorem rowCells_get (hk : ∀ x, (enc x).length = k) : ∀ (l : List α) (i : Nat) (x : α), l[i]? = some x → ∀ j u, (enc x)[j]? = some u → (rowCells enc l)[i * k + j]? = some u
  | [], i, x, h, _, _, _ => by simp at h
  | y :: l, 0, x, h, j, u, hj => by
    simp at h
    subst h
    have hlt : j < (enc y).length := (List.getElem?_eq_some_iff.1 hj).1
    unfold rowCells
    rw [List.flatMap_cons, Nat.zero_mul, Nat.zero_add, List.getElem?_append_left hlt]
    exact hj
  | y :: l, i + 1, x, h, j, u, hj => by
    have := rowCells_get hk l i x (by simpa using h) j u hj
    unfold rowCells at this ⊢
    rw [List.flatMap_cons, List.getElem?_append_right (by rw [hk, Nat.succ_mul]; omega), hk, show (i + 1) * k + j - k = i * k + j by rw [Nat.succ_mul]; omega]
    exact this
theorem rowCells_append (l m : List α) : rowCells enc (l ++ m) = rowCells enc l ++ rowCells enc m := by simp [rowCells]
/-- a row of the call's own is such a slice -/
theorem rowV_own {B : Nat} {e : TypeId} {n : Nat} (hk : ∀ x, (enc x).length = k) (hk0 : 0 < k) (h : W.ownsRow B e k v n (rowCells enc l)) : RowV k enc W v l := by
  obtain ⟨h1, h2⟩ := h
  rw [rowCells_len hk] at h1
  have hn : n = l.length := (Nat.eq_of_mul_eq_mul_right hk0 h1).symm
  subst hn
  rcases h2 with ⟨rfl, h0⟩ | ⟨g, cap, cur, rfl, _, hg, hc, _, _, ht⟩
  · have hl := List.length_eq_zero_iff.1 h0
    subst hl
    exact RowV.nil W
  · refine ⟨some ⟨g, 0, none⟩, cap, rfl, hc, .inr ⟨g, 0, rfl, (Array.getElem?_eq_some_iff.1 hg).1, fun i x hi j u hj => ?_⟩⟩
    have h3 := rowCells_get hk l i x hi j u hj
    rw [← ht, List.getElem?_take] at h3
    split at h3
    · rw [cellAt hg, Nat.zero_add, ← Array.getElem?_toList]; exact h3
    · cases h3
/-- what the call's own row says of one element -/
theorem own_range {B : Nat} {e : TypeId} {n : Nat} {g cap : Nat} {xs : List Value} (h : W.ownsRow B e k (.slice (some ⟨g, 0, none⟩) n cap) n xs) (o : Nat) (cs : List Value) (hx : ∀ j u, cs[j]? = some u → xs[o + j]? = some u) : W.rangeAt g o cs := by
  obtain ⟨h1, h2⟩ := h
  rcases h2 with ⟨hv, _⟩ | ⟨g', cap', cur, hv, _, hg, hc, _, _, ht⟩
  · cases hv
  · cases hv
    intro j u hj
    have h3 := hx j u hj
    rw [← ht, List.getElem?_take] at h3
    split at h3
    · rw [cellAt hg, ← Array.getElem?_toList]; exact h3
    · cases h3
end
/-! whole elements, under names that a walk does not open -/
def ldRow (T : TypeId) (x : Value) : Sem Value := Instr.loadAt T x
def stRow (T : TypeId) (x y : Value) : Sem Unit := Instr.storeAt T x y
theorem ldRow_mid {P : Program} {W : World} {b o : Nat} {ty : TypeId} {cs : List Value} {d : TypeDesc} (hc : W.rangeAt b o cs) (hu : P.underlying ty = some d) (hd : d.isRow = true) (hi : (P.info? ty).map (·.size) = some cs.length) :
    (ldRow ty (.pointer (some ⟨b, o, none⟩))).run P W = .ok (.agg cs.toArray) W := run_loadAt_mid W b o ty cs d hc hu hd hi
theorem stRow_mid {P : Program} {W : World} {b o : Nat} {ty : TypeId} {cells : Array Value} (ht : W.there b o cells.size) (hi : (P.info? ty).map (·.size) = some cells.size) (h1 : cells.all (·.oneCell') = true) :
    (stRow ty (.pointer (some ⟨b, o, none⟩)) (.agg cells)).run P W = .ok () (W.setCells b o cells.toList) := run_storeAt_mid W b o ty cells ht hi h1
end Go.Proofs.YtllbphanfahkkaaGreatDoor

/-
  Rows of structs of the call's own: an element set, the end cut off, elements behind one that are cleared, a copy, an element appended: no condition beyond each theorem's own premises.
-/
namespace Go.Proofs.YtllbphanfahkkaaGreatDoor
open Go.RowKit
section
variable {α : Type} {k : Nat} {enc : α → List Value}
theorem rowCells_at (hk : ∀ x, (enc x).length = k) (h0 : 0 < k) : ∀ (l : List α) (m : Nat), (rowCells enc l)[m]? = (l[m / k]?).bind fun x => (enc x)[m % k]?
  | [], m => by simp [rowCells]
  | y :: l, m => by
    have ih := rowCells_at hk h0 l
    unfold rowCells at ih ⊢
    rw [List.flatMap_cons]
    by_cases h : m < k
    · rw [List.getElem?_append_left (by rw [hk]; exact h), Nat.div_eq_of_lt h, Nat.mod_eq_of_lt h]
      rfl
    · rw [List.getElem?_append_right (by rw [hk]; omega), hk, ih (m - k)]
      have h1 : m / k = (m - k) / k + 1 := by
        rw [← Nat.add_div_right _ h0]
        congr 1
        omega
      have h2 : m % k = (m - k) % k := by
        rw [Nat.mod_eq_sub_mod (by omega)]
      rw [h1, h2, List.getElem?_cons_succ]
/-- cells put into an array -/
def splice : Array Value → Nat → List Value → Array Value
  | c, _, [] => c
  | c, o, v :: vs => splice (c.setIfInBounds o v) (o + 1) vs
theorem splice_size : ∀ (vs : List Value) (c : Array Value) (o : Nat), (splice c o vs).size = c.size
  | [], _, _ => rfl
  | v :: vs, c, o => by rw [splice, splice_size vs]; simp
theorem splice_out : ∀ (vs : List Value) (c : Array Value) (o j : Nat), j < o ∨ o + vs.length ≤ j → (splice c o vs)[j]? = c[j]?
  | [], _, _, _, _ => rfl
  | v :: vs, c, o, j, h => by
    rw [List.length_cons] at h
    rw [splice, splice_out vs _ _ _ (by omega), Array.getElem?_setIfInBounds, if_neg (by omega)]
theorem splice_in : ∀ (vs : List Value) (c : Array Value) (o i : Nat), o + vs.length ≤ c.size → i < vs.length → (splice c o vs)[o + i]? = vs[i]?
  | [], _, _, _, _, h => by simp at h
  | v :: vs, c, o, 0, h, _ => by
    rw [List.length_cons] at h
    rw [splice, splice_out vs _ _ _ (by omega), Array.getElem?_setIfInBounds]
    simp
    omega
  | v :: vs, c, o, i + 1, h, hi => by
    rw [List.length_cons] at h hi
    rw [splice, show o + (i + 1) = o + 1 + i by omega, splice_in vs _ (o + 1) i (by simp; omega) (by omega)]
    simp
theorem setCells_heap : ∀ (vs : List Value) (W : World) (g o : Nat) (c : Array Value) (t : TypeId) (fr : Nat × Nat), W.heap[g]? = some (.cells c t fr) → (W.setCells g o vs).heap[g]? = some (.cells (splice c o vs) t fr)
  | [], _, _, _, _, _, _, h => h
  | v :: vs, W, g, o, c, t, fr, h => by
    rw [World.setCells]
    refine setCells_heap vs _ g (o + 1) (c.setIfInBounds o v) t fr ?_
    obtain ⟨hlt, hget⟩ := Array.getElem?_eq_some_iff.1 h
    show (W.heap.modify g _)[g]? = _
    rw [Array.getElem?_modify, if_pos rfl, h]
    rfl
theorem setCells_grown : ∀ (vs : List Value) (W : World) (g o : Nat), W.grownBy (W.setCells g o vs) (some g)
  | [], W, g, o => ⟨rfl, rfl, rfl, Nat.le_refl _, fun _ _ _ => rfl⟩
  | v :: vs, W, g, o => by
    have h4 : W.grownBy (W.setCell ⟨g, o, none⟩ v) (some g) := ⟨rfl, rfl, rfl, by simp [World.setCell], fun k _ hk => Below.heap_setCell _ _ _ _ (by intro e'; exact hk (by rw [e']))⟩
    exact World.grownBy.trans h4 (setCells_grown vs _ g (o + 1))
variable {W : World} {B : Nat} {e : TypeId} {g cap n : Nat} {l : List α}
/-- a whole row of the call's own -/
theorem own_row {v : Value} {xs : List Value} (h : W.ownsRow B e k v n xs) (hv : v = .slice (some ⟨g, 0, none⟩) n cap) : ∃ cur, B ≤ g ∧ g < W.heap.size ∧ W.heap[g]? = some (.cells cur e (0, 0)) ∧ n ≤ cap ∧ cap ≤ maxLen ∧ cur.size = cap * k ∧ cur.toList.take (n * k) = xs := by
  obtain ⟨_, h2⟩ := h
  subst hv
  rcases h2 with ⟨hv, _⟩ | ⟨g', cap', cur, hv, hB, hg, h3, h4, h5, h6⟩
  · cases hv
  · cases hv
    exact ⟨cur, hB, (Array.getElem?_eq_some_iff.1 hg).1, hg, h3, h4, h5, h6⟩
theorem own_there (h : W.ownsRow B e k (.slice (some ⟨g, 0, none⟩) n cap) n (rowCells enc l)) (o m : Nat) (ho : o + m ≤ n * k) : W.there g o m := by
  obtain ⟨cur, _, _, hg, hn, _, hs, _⟩ := own_row h rfl
  have h1 : n * k ≤ cap * k := Nat.mul_le_mul_right _ hn
  intro j hj
  refine ⟨?_, by simp [World.frozen?, hg]⟩
  rw [cellAt hg, Array.getElem?_eq_getElem (by omega)]
  rfl
/-- an element is set -/
theorem own_set (hk : ∀ x, (enc x).length = k) (h0 : 0 < k) (h : W.ownsRow B e k (.slice (some ⟨g, 0, none⟩) l.length cap) l.length (rowCells enc l)) (i : Nat) (hi : i < l.length) (x : α) :
    (W.setCells g (i * k) (enc x)).ownsRow B e k (.slice (some ⟨g, 0, none⟩) l.length cap) l.length (rowCells enc (l.set i x)) := by
  obtain ⟨cur, hB, _, hg, hn, hm, hs, ht⟩ := own_row h rfl
  have h1 : l.length * k ≤ cap * k := Nat.mul_le_mul_right _ hn
  have h2 : (i + 1) * k ≤ l.length * k := Nat.mul_le_mul_right _ hi
  have h3 : (i + 1) * k = i * k + k := Nat.succ_mul _ _
  refine ⟨by rw [rowCells_len hk, List.length_set], .inr ⟨g, cap, splice cur (i * k) (enc x), rfl, hB, setCells_heap _ _ _ _ _ _ _ hg, hn, hm, by rw [splice_size]; exact hs, ?_⟩⟩
  apply List.ext_getElem?
  intro m
  rw [List.getElem?_take, rowCells_at hk h0]
  have hm0 := congrArg (·[m]?) ht
  simp only [List.getElem?_take, rowCells_at hk h0] at hm0
  split
  · rename_i hlt
    rw [if_pos hlt] at hm0
    rw [Array.getElem?_toList]
    have hd := Nat.div_add_mod m k
    have hr := Nat.mod_lt m h0
    by_cases hin : m / k = i
    · have hmi : m = i * k + m % k := by rw [← hin, Nat.mul_comm]; exact hd.symm
      have : (splice cur (i * k) (enc x))[i * k + m % k]? = (enc x)[m % k]? := splice_in _ _ _ _ (by rw [hk]; omega) (by rw [hk]; exact hr)
      rw [← hmi] at this
      rw [this, hin, List.getElem?_set_self (by omega)]
      rfl
    · rw [splice_out, ← Array.getElem?_toList, hm0, List.getElem?_set_ne (by omega)]
      rw [hk]
      rcases Nat.lt_or_ge (m / k) i with hl | hl
      · left
        have : (m / k + 1) * k ≤ i * k := Nat.mul_le_mul_right _ hl
        rw [Nat.succ_mul] at this
        rw [Nat.mul_comm] at hd
        omega
      · right
        have : (i + 1) * k ≤ m / k * k := Nat.mul_le_mul_right _ (by omega)
        rw [Nat.mul_comm] at hd
        omega
  · rename_i hlt
    have hd : l.length ≤ m / k := (Nat.le_div_iff_mul_le h0).2 (by omega)
    rw [List.getElem?_eq_none (by rw [List.length_set]; exact hd)]
    rfl
/-- one cell of an element is set -/
theorem own_cell (hk : ∀ x, (enc x).length = k) (h0 : 0 < k) (h : W.ownsRow B e k (.slice (some ⟨g, 0, none⟩) l.length cap) l.length (rowCells enc l)) (i j : Nat) (y x : α) (u : Value) (hy : l[i]? = some y) (hj : j < k) (hx : enc x = (enc y).set j u) :
    (W.setCell ⟨g, i * k + j, none⟩ u).ownsRow B e k (.slice (some ⟨g, 0, none⟩) l.length cap) l.length (rowCells enc (l.set i x)) := by
  have hi : i < l.length := (List.getElem?_eq_some_iff.1 hy).1
  obtain ⟨cur, hB, _, hg, hn, hm, hs, ht⟩ := own_row h rfl
  have h1 : l.length * k ≤ cap * k := Nat.mul_le_mul_right _ hn
  have h2 : (i + 1) * k ≤ l.length * k := Nat.mul_le_mul_right _ hi
  have h3 : (i + 1) * k = i * k + k := Nat.succ_mul _ _
  refine ⟨by rw [rowCells_len hk, List.length_set], .inr ⟨g, cap, splice cur (i * k + j) [u], rfl, hB, setCells_heap [u] _ _ _ _ _ _ hg, hn, hm, by rw [splice_size]; exact hs, ?_⟩⟩
  apply List.ext_getElem?
  intro m
  rw [List.getElem?_take, rowCells_at hk h0]
  have hm0 := congrArg (·[m]?) ht
  simp only [List.getElem?_take, rowCells_at hk h0] at hm0
  split
  · rename_i hlt
    rw [if_pos hlt] at hm0
    rw [Array.getElem?_toList]
    have hd := Nat.div_add_mod m k
    have hr := Nat.mod_lt m h0
    rw [Nat.mul_comm] at hd
    by_cases hin : m / k = i
    · rw [hin, List.getElem?_set_self hi]
      rw [hin] at hm0
      rw [hy] at hm0
      show _ = (enc x)[m % k]?
      rw [hx]
      by_cases hmj : m % k = j
      · have hmi : m = i * k + j + 0 := by rw [← hin, ← hmj]; omega
        have : (splice cur (i * k + j) [u])[i * k + j + 0]? = [u][0]? := splice_in _ _ _ _ (by show i * k + j + 1 ≤ cur.size; omega) (by simp)
        rw [← hmi] at this
        rw [this, hmj, List.getElem?_set_self (by rw [hk]; exact hj)]
        rfl
      · rw [splice_out, ← Array.getElem?_toList, hm0, List.getElem?_set_ne (Ne.symm hmj)]
        · rfl
        · rw [hin] at hd
          show m < i * k + j ∨ i * k + j + 1 ≤ m
          omega
    · rw [splice_out, ← Array.getElem?_toList, hm0, List.getElem?_set_ne (by omega)]
      show m < i * k + j ∨ i * k + j + 1 ≤ m
      rcases Nat.lt_or_ge (m / k) i with hl | hl
      · left
        have : (m / k + 1) * k ≤ i * k := Nat.mul_le_mul_right _ hl
        rw [Nat.succ_mul] at this
        omega
      · right
        have : (i + 1) * k ≤ m / k * k := Nat.mul_le_mul_right _ (by omega)
        omega
  · rename_i hlt
    have hd : l.length ≤ m / k := (Nat.le_div_iff_mul_le h0).2 (by omega)
    rw [List.getElem?_eq_none (by rw [List.length_set]; exact hd)]
    rfl
/-- the end is cut off -/
theorem own_cut (hk : ∀ x, (enc x).length = k) (h : W.ownsRow B e k (.slice (some ⟨g, 0, none⟩) l.length cap) l.length (rowCells enc l)) (i : Nat) (hi : i ≤ l.length) :
    W.ownsRow B e k (.slice (some ⟨g, 0, none⟩) i cap) i (rowCells enc (l.take i)) := by
  obtain ⟨cur, hB, _, hg, hn, hm, hs, ht⟩ := own_row h rfl
  refine ⟨by rw [rowCells_len hk, List.length_take, Nat.min_eq_left hi], .inr ⟨g, cap, cur, rfl, hB, hg, by omega, hm, hs, ?_⟩⟩
  have h2 : i * k ≤ l.length * k := Nat.mul_le_mul_right _ hi
  have h3 : (rowCells enc l).take (i * k) = rowCells enc (l.take i) := by
    conv => lhs; rw [← List.take_append_drop i l, rowCells_append]
    exact List.take_left' (by rw [rowCells_len hk, List.length_take, Nat.min_eq_left hi])
  rw [← h3, ← ht, List.take_take, Nat.min_eq_left h2]
/-- cells behind a row's first elements are turned: the first elements stay -/
theorem own_tail (h : W.ownsRow B e k (.slice (some ⟨g, 0, none⟩) n cap) n (rowCells enc l)) (o : Nat) (ho : n * k ≤ o) (vs : List Value) :
    (W.setCells g o vs).ownsRow B e k (.slice (some ⟨g, 0, none⟩) n cap) n (rowCells enc l) := by
  have hl := h.1
  obtain ⟨cur, hB, _, hg, hn, hm, hs, ht⟩ := own_row h rfl
  refine ⟨hl, .inr ⟨g, cap, splice cur o vs, rfl, hB, setCells_heap _ _ _ _ _ _ _ hg, hn, hm, by rw [splice_size]; exact hs, ?_⟩⟩
  rw [← ht]
  apply List.ext_getElem?
  intro m
  rw [List.getElem?_take, List.getElem?_take]
  split
  · rw [Array.getElem?_toList, Array.getElem?_toList, splice_out _ _ _ _ (by omega)]
  · rfl
end
theorem setRow_else (W : World) (r : Nat) (cs : Array Value) (g : Nat) (h : g ≠ r) : (W.setRow r cs).heap[g]? = W.heap[g]? := by
  simp only [World.setRow, Array.getElem?_modify]
  rw [if_neg (Ne.symm h)]
theorem own_base {W : World} {B B' : Nat} {e : TypeId} {k n : Nat} {v : Value} {xs : List Value} (h : W.ownsRow B e k v n xs) (hb : B' ≤ B) : W.ownsRow B' e k v n xs := by
  refine ⟨h.1, h.2.imp id ?_⟩
  rintro ⟨g, cap, cur, h1, h2, h3⟩
  exact ⟨g, cap, cur, h1, Nat.le_trans hb h2, h3⟩
/-- a row below is written -/
theorem own_setRow {W : World} {B : Nat} {e : TypeId} {k n : Nat} {v : Value} {xs : List Value} (h : W.ownsRow B e k v n xs) (r : Nat) (hr : r < B) (cs : Array Value) : (W.setRow r cs).ownsRow B e k v n xs := by
  refine ⟨h.1, h.2.imp id ?_⟩
  rintro ⟨g, cap, cur, h1, h2, h3, h4⟩
  exact ⟨g, cap, cur, h1, h2, (setRow_else _ _ _ _ (by omega)).trans h3, h4⟩
/-- 'clear(s)', s a slice of n > 0 elements of k cells -/
theorem run_clear_rows {P : Program} (w : World) (t e : TypeId) (z : Value) (ht : P.underlying t = some (.slice e)) (hv : ∀ w, (zeroValue e).run P w = .ok z w) (h1 : ∀ u ∈ z.cells.toList, u.oneCell' = true) (b o n c : Nat) (hn : 0 < n)
    (hth : w.there b o (n * z.cells.size)) : ∃ vs, vs.length = n * z.cells.size ∧ ∀ ty, (Builtin.clear_ #[t] ty #[.slice (some ⟨b, o, none⟩) n c]).run P w = .ok (.tuple #[]) (w.setCells b o vs) := by
  refine ⟨(Builtin.zeroCells z.cells n).toList, by simp [Builtin.zeroCells], fun ty => ?_⟩
  have hone : ∀ v ∈ (Builtin.zeroCells z.cells n).toList, v.oneCell' = true := by
    intro v hv'
    simp only [Builtin.zeroCells, Array.toList_map, List.mem_map, Array.toList_range, List.mem_range] at hv'
    obtain ⟨i, hi, rfl⟩ := hv'
    have hs : 0 < z.cells.size := by
      rcases Nat.eq_zero_or_pos z.cells.size with h | h
      · rw [h, Nat.mul_zero] at hi; omega
      · exact h
    have hm := Nat.mod_lt i hs
    rw [getElem!_pos z.cells (i % z.cells.size) hm]
    exact h1 _ (Array.mem_toList_iff.2 (Array.getElem_mem hm))
  have hlen : (Builtin.zeroCells z.cells n).toList.length = n * z.cells.size := by simp [Builtin.zeroCells]
  have hst := run_storeCells_cells (P := P) b o (Builtin.zeroCells z.cells n).toList 0 w (fun j hj => by rw [Nat.add_zero]; exact (hth j (by omega)).1) (fun j hj => by rw [Nat.add_zero]; exact (hth j (by omega)).2) hone
  simp only [Nat.add_zero] at hst
  obtain ⟨m, rfl⟩ : ∃ m, n = m + 1 := ⟨n - 1, by omega⟩
  simp [Builtin.clear_, run_underlying ht, hv, hst]
end Go.Proofs.YtllbphanfahkkaaGreatDoor

/-
  A slice of structs appended to a row of the call's own, whatever the slice is (nil, empty, with elements): no condition beyond each theorem's own premises.
-/
namespace Go.Proofs.YtllbphanfahkkaaGreatDoor
open Go.RowKit
section
variable {α : Type} {k : Nat} {enc : α → List Value} {P : Program}
theorem rowCells_one (hone : ∀ x, ∀ u ∈ enc x, u.oneCell' = true) (l : List α) : ∀ u ∈ rowCells enc l, u.oneCell' = true := by
  intro u hu
  obtain ⟨x, _, hx⟩ := List.mem_flatMap.1 hu
  exact hone x u hx
theorem rowV_cells {W : World} {b o : Nat} {l : List α} (hk : ∀ x, (enc x).length = k) (h0 : 0 < k) (hc : ∀ i x, l[i]? = some x → W.rangeAt b (o + i * k) (enc x)) :
    ∀ j u, (rowCells enc l)[j]? = some u → W.cell? ((⟨b, o, none⟩ : Addr).add j) = some u := by
  intro j u hj
  rw [rowCells_at hk h0] at hj
  obtain ⟨x, hx, hxu⟩ := Option.bind_eq_some_iff.1 hj
  have h1 := hc _ _ hx _ _ hxu
  rw [Addr.add_mid]
  have := Nat.div_add_mod j k
  rw [Nat.mul_comm] at this
  rwa [Nat.add_assoc, this] at h1
/-- 'append(v, y...)' -/
theorem run_app_rows {t e : TypeId} {z : Value} {bytes : Nat} (ty : TypeId) (ht : P.underlying t = some (.slice e)) (hinfo : (P.info? e).map (fun i => (i.zero, i.size, i.bytes)) = some (some z, k, bytes)) (hzs : z.cells.size = k) (h0 : 0 < k)
    (hk : ∀ x, (enc x).length = k) (hone : ∀ x, ∀ u ∈ enc x, u.oneCell' = true) {W : World} {B : Nat} {v y : Value} {l m : List α} (hown : W.ownsRow B e k v l.length (rowCells enc l)) (hB : B ≤ W.heap.size) (hy : RowV k enc W y m)
    (hlen : l.length + m.length ≤ maxLen) (hby : (l.length + m.length) * bytes ≤ 140737488355328) :
    ∃ v' W', (Builtin.append_ #[t, t] ty #[v, y]).run P W = .ok v' W' ∧ W'.ownsRow B e k v' (l ++ m).length (rowCells enc (l ++ m)) ∧ Below B W W' ∧ W.grownBy W' v.ownBlock := by
  obtain ⟨i0, hi, hz0, hz1, hz2⟩ := info_parts hinfo
  obtain ⟨a, c, rfl, _, ha⟩ := hy
  cases a with
  | some ad =>
    have hnews : ∀ j u, (rowCells enc m)[j]? = some u → W.cell? (ad.add j) = some u := by
      rcases ha with rfl | ⟨b, o, hab, _, hc⟩
      · intro j u hj; simp [rowCells] at hj
      · cases hab
        exact rowV_cells hk h0 hc
    obtain ⟨v', w3, hr, h2, h3, _⟩ := run_append_own (P := P) W B t ty e i0 z k bytes ht hi hz0 hz1 hz2 hzs h0 v l.length (rowCells enc l) hown ad m.length c (rowCells enc m) (rowCells_len hk m) hnews (rowCells_one hone m) hlen hby hB
    refine ⟨v', w3, hr, ?_, (Below.refl B W).grown h3 hB (fun k hk => (hown.lt k hk).1), h3⟩
    rw [rowCells_append, List.length_append]
    exact h2
  | none =>
    obtain rfl : m = [] := by
      rcases ha with rfl | ⟨b, o, hab, _⟩
      · rfl
      · cases hab
    have hown2 := hown
    rcases hown.2 with ⟨rfl, h00⟩ | ⟨g, cap, cur, rfl, _, hg, hn, _⟩
    · obtain rfl := List.length_eq_zero_iff.1 h00
      refine ⟨.slice none 0 0, W, ?_, by simpa using hown2, Below.refl _ _, ⟨rfl, rfl, rfl, Nat.le_refl _, fun _ _ _ => rfl⟩⟩
      have hs : Src P i0.size t (.slice none 0 c) 0 [] W := Src.ofNil W ht c
      simp [Builtin.append_, run_underlying ht, sizeOf, typeInfo, hi, hs.len, hs.cells]
    · have hr := run_append_room_src (P := P) W t t ty e i0 ht hi g 0 l.length cap (.slice none 0 c) 0 [] (by rw [hz1]; exact Src.ofNil W ht c) (by omega) (by simp) (by simp)
      exact ⟨_, _, hr, by simpa [World.setCells] using hown2, Below.refl _ _, ⟨rfl, rfl, rfl, Nat.le_refl _, fun _ _ _ => rfl⟩⟩
/-- a slice literal -/
theorem rows_lit (W : World) (t : TypeId) (hk : ∀ x, (enc x).length = k) (l : List α) : RowV k enc (W.alloc (.cells (rowCells enc l).toArray t)) (.slice (some ⟨W.heap.size, 0, none⟩) l.length l.length) l :=
  ⟨_, _, rfl, Nat.le_refl _, .inr ⟨W.heap.size, 0, rfl, by simp, fun i x hx j u hj => by rw [cellAt (newAt rfl), Nat.zero_add, List.getElem?_toArray]; exact rowCells_get hk l i x hx j u hj⟩⟩
/-- the operation, in a walk -/
theorem wpList_app_run {ops : Array Oper} {rest : List Oper} {o : Oper} {a : Act} {W : World} {Q : Exit → Act → World → Prop} {t : TypeId} {v y v' : Value} {W' : World} (hgd : o.guard = none) (s x : Operand)
    (ho : o.op = .call { callee := .builtin .append, args := #[s, x], argTypes := #[t, t] }) (hs : a.eval s = v) (hx : a.eval x = y)
    (hr : (Builtin.append_ #[t, t] o.type #[v, y]).run P W = .ok v' W') (h : wpList P ops Q rest (a.put o.dst v') W') : wpList P ops Q (o :: rest) a W :=
  wpList_plain hgd fun _ hK => by
    unfold Oper.wp execOp
    simp only [ho, resolve, invoke, builtin, Sem.run_bind, Sem.run_pure, Result.andThen_ok, List.map_toArray, List.map_cons, List.map_nil, hs, hx, hr]
    exact hK _ _ h
/-- the first elements of a slice -/
theorem RowV.first {W : World} {l : List α} {a : Option Addr} {n cap : Nat} (hv : RowV k enc W (.slice a n cap) l) (m : Nat) (hm : m ≤ l.length) : RowV k enc W (.slice a m cap) (l.take m) := by
  obtain ⟨a', c', he, hc, ha⟩ := hv
  cases he
  have hl : (l.take m).length = m := by rw [List.length_take, Nat.min_eq_left hm]
  refine ⟨_, _, by rw [hl], by rw [hl]; omega, ?_⟩
  rcases ha with rfl | ⟨b, o, rfl, hb, hat⟩
  · left; simp
  · right
    refine ⟨b, o, rfl, hb, fun i x hx => ?_⟩
    rw [List.getElem?_take] at hx
    split at hx
    · exact hat _ _ hx
    · cases hx
/-- a part of a slice -/
theorem RowV.sub {W : World} {l : List α} {a : Option Addr} {cap : Nat} (hv : RowV k enc W (.slice a l.length cap) l) (i j : Nat) (hij : i ≤ j) (hj : j ≤ l.length) : RowV k enc W (.slice (a.map fun x => ⟨x.block, x.off + i * k, x.spot⟩) (j - i) (cap - i)) ((l.take j).drop i) := by
  obtain ⟨a', c', he, hc, ha⟩ := hv
  cases he
  have hl : ((l.take j).drop i).length = j - i := by rw [List.length_drop, List.length_take, Nat.min_eq_left hj]
  refine ⟨_, _, by rw [hl], by rw [hl]; omega, ?_⟩
  rcases ha with rfl | ⟨b, o, rfl, hb, hat⟩
  · left; simp
  · right
    refine ⟨b, o + i * k, rfl, hb, fun m x hx => ?_⟩
    rw [List.getElem?_drop, List.getElem?_take] at hx
    split at hx
    · have := hat _ _ hx
      rwa [Nat.add_mul, ← Nat.add_assoc] at this
    · cases hx
end
end Go.Proofs.YtllbphanfahkkaaGreatDoor

/-
  Regions that draw their order, walked once in an order of one's own, where the operations of a chain change the memory and may leave values that are known by a property alone: no condition beyond each theorem's own premises.
-/
namespace Go.Proofs.YtllbphanfahkkaaGreatDoor.RG
open Go
variable {P : Program} {ops : Array Oper}
abbrev Cls := Nat → World → Prop
def Sub (S' S : Cls) : Prop := ∀ j w, S' j w → S j w
theorem Sub.refl (S : Cls) : Sub S S := fun _ _ h => h
/-- what an operation of the chain leaves -/
def XUp (P : Program) (D : Value → World → Prop) : Result Next → Prop
  | .ok (.value u) w' => D u w'
  | .ok .skip w' => D undef w'
  | .ok (.enter f args) w' => Calls P f args w' fun e w'' => ∃ u, e = .returned u ∧ D u w''
  | _ => False
theorem CS.sub {S S' : Cls} {ks : List Nat} {l : Array Bool} {w : World} (hs : Sub S' S) (h : CS ops S' ks l w) : CS ops S ks l w := by
  obtain ⟨h1, j, h2, h3, h4⟩ := h
  exact ⟨h1, j, h2, hs j w h3, h4⟩
/-- wherever it may come up, operation i yields v and leaves the world -/
def YP (P : Program) (ops : Array Oper) (ks : List Nat) (S : Cls) (i : Nat) (o : Oper) (v : Value) (a : Act) : Prop :=
  ks.contains i = false ∧ ((Region.wanted o (yielded ops a.tmps) = true ∧ ∀ l w, rdy ops l i → CS ops S ks l w → (execOp a.eval o).run P w = .ok (.value v) w) ∨ (Region.wanted o (yielded ops a.tmps) = false ∧ v = undef))
theorem YP.sub {ks : List Nat} {S S' : Cls} {i : Nat} {o : Oper} {v : Value} {a : Act} (hs : Sub S' S) (h : YP P ops ks S i o v a) : YP P ops ks S' i o v a :=
  ⟨h.1, h.2.imp (fun h => ⟨h.1, fun l w hr hc => h.2 l w hr (CS.sub hs hc)⟩) id⟩
theorem YP.of_same {ks : List Nat} {S : Cls} {i : Nat} {o : Oper} {v : Value} {a a' : Act} (hy : YP P ops ks S i o v a) (he : execOp a'.eval o = execOp a.eval o)
    (hw : Region.wanted o (yielded ops a'.tmps) = Region.wanted o (yielded ops a.tmps)) : YP P ops ks S i o v a' := by
  unfold YP at *
  rw [he, hw]
  exact hy
/-- an operation of the chain -/
def ChC (P : Program) (ops : Array Oper) (ks : List Nat) (S : Cls) (s i : Nat) (o : Oper) (a : Act) (Φ : Cls → Value → Prop) : Prop :=
  ks[s]? = some i ∧ Region.wanted o (yielded ops a.tmps) = true ∧ ∀ w, S s w → XUp P (fun u w' => ∃ S', Sub S' S ∧ S' (s + 1) w' ∧ Φ S' u) ((execOp a.eval o).run P w)
def gOp (P : Program) (ops : Array Oper) (ks : List Nat) (S : Cls) (i : Nat) (K : Cls → Act → Prop) (a : Act) : Prop :=
  ∃ o, ops[i]? = some o ∧ ((∃ v, YP P ops ks S i o v a ∧ K S (a.put o.dst v)) ∨ ∃ s Φ, ChC P ops ks S s i o a Φ ∧ ∀ S' u, Sub S' S → Φ S' u → K S' (a.put o.dst u))
theorem gOp_mono {ks : List Nat} {S : Cls} {i : Nat} {a : Act} {K K' : Cls → Act → Prop} (h : ∀ S' a, Sub S' S → K S' a → K' S' a) (hh : gOp P ops ks S i K a) : gOp P ops ks S i K' a := by
  obtain ⟨o, h1, h2⟩ := hh
  refine ⟨o, h1, h2.imp ?_ ?_⟩
  · rintro ⟨v, h3, h4⟩
    exact ⟨v, h3, h _ _ (Sub.refl _) h4⟩
  · rintro ⟨s, Φ, h3, h4⟩
    exact ⟨s, Φ, h3, fun S' u hs hu => h _ _ hs (h4 S' u hs hu)⟩
def wpG (P : Program) (ops : Array Oper) (ks : List Nat) (Q : Cls → Act → Prop) : Nat → Cls → Array Bool → Act → Prop
  | 0, S, l, a => Region.ready .any ops l = [] ∧ Q S a
  | n + 1, S, l, a => (Region.ready .any ops l = [] → Q S a) ∧ ∀ i ∈ Region.ready .any ops l, gOp P ops ks S i (fun S' a' => wpG P ops ks Q n S' (l.setIfInBounds i true) a') a
theorem wpAny_of_G {ks : List Nat} {Q : Cls → Act → Prop} {Q' : Exit → Act → World → Prop} (hch : chainB ops ks = true ∧ ks.Nodup) (hQ : ∀ S a l w, Region.ready .any ops l = [] → CS ops S ks l w → Q S a → Q' .normal a w) :
    ∀ (n : Nat) (S : Cls) (l : Array Bool) (a : Act) (w : World), CS ops S ks l w → wpG P ops ks Q n S l a → wpAny P .any ops Q' n l a w
  | 0, _, _, _, _, hw, h => ⟨h.1, hQ _ _ _ _ h.1 hw h.2⟩
  | n + 1, S, l, a, w, hw, h => by
    refine ⟨fun h0 => hQ _ _ _ _ h0 hw (h.1 h0), fun i hi => ?_⟩
    obtain ⟨o, ho, hh⟩ := h.2 i hi
    unfold wpOp
    simp only [ho]
    have hw' := hw
    obtain ⟨hsh, j, hj, hS, hl⟩ := hw'
    rcases hh with ⟨v, ⟨hk, hy⟩, hK⟩ | ⟨s, Φ, ⟨hs, hwt, hC⟩, hK⟩
    · have hk' : i ∉ ks := by simpa using hk
      rcases hy with ⟨h1, h2⟩ | ⟨h1, rfl⟩
      · rw [if_pos h1]
        refine .inl ?_
        unfold Oper.wp
        rw [h2 l w hi hw]
        exact wpAny_of_G hch hQ n _ _ _ _ (CS.keep hsh hi hk' hj hS hl) hK
      · rw [if_neg (by rw [h1]; simp)]
        exact wpAny_of_G hch hQ n _ _ _ _ (CS.keep hsh hi hk' hj hS hl) hK
    · rw [if_pos hwt]
      refine .inl ?_
      have hnl := listed_not_ready hi hsh.1
      have hjs : j ≤ s := by
        rcases Nat.lt_or_ge s j with h' | h'
        · rw [(hl s i hs).2 h'] at hnl; cases hnl
        · exact h'
      have hsj : s ≤ j := by
        cases s with
        | zero => omega
        | succ s =>
          have hlt := (List.getElem?_eq_some_iff.1 hs).1
          obtain ⟨h3, h4⟩ := chainB_get ks hch.1 s _ i (List.getElem?_eq_getElem (by omega)) hs
          exact (hl s _ (List.getElem?_eq_getElem (by omega))).1 (isAnc_ready hsh h3 h4 hi)
      obtain rfl : j = s := by omega
      have h3 := hC w hS
      unfold Oper.wp
      generalize (execOp a.eval o).run P w = r at *
      cases r with
      | ok n' w' =>
        cases n' <;> simp only [XUp] at h3 <;> simp only [Oper.upon]
        case value u =>
          obtain ⟨S', hs1, hs2, hs3⟩ := h3
          exact wpAny_of_G hch hQ n _ _ _ _ (CS.next hsh hi hs hch.2 hs2 hl) (hK S' u hs1 hs3)
        case skip =>
          obtain ⟨S', hs1, hs2, hs3⟩ := h3
          exact wpAny_of_G hch hQ n _ _ _ _ (CS.next hsh hi hs hch.2 hs2 hl) (hK S' undef hs1 hs3)
        case enter f args =>
          refine Calls.mono h3 ?_
          rintro e w'' ⟨u, rfl, S', hs1, hs2, hs3⟩
          exact wpAny_of_G hch hQ n _ _ _ _ (CS.next hsh hi hs hch.2 hs2 hl) (hK S' u hs1 hs3)
      | halt x w' => simp only [XUp] at h3
theorem gOp_put {ks : List Nat} {S : Cls} {i j : Nat} {oi oj : Oper} {v : Value} (hj : ops[j]? = some oj) (hap : oi.apart ops oj = true)
    (hsi : ∀ cs b, oi.op ≠ .select cs b) (hsj : ∀ cs b, oj.op ≠ .select cs b) {K : Cls → Act → Prop} {a : Act}
    (hy : YP P ops ks S i oi v a) (h : gOp P ops ks S j K (a.put oi.dst v)) : gOp P ops ks S j (fun S' a' => YP P ops ks S' i oi v a' ∧ K S' (a'.put oi.dst v)) a := by
  obtain ⟨h1, h2, h3⟩ := Oper.apart_spec hap
  obtain ⟨o, ho, hh⟩ := h
  obtain rfl : o = oj := Option.some.inj (ho.symm.trans hj)
  have hsame : ∀ u, YP P ops ks S i oi v (a.put o.dst u) := fun u => hy.of_same (execOp_put oi hsi a o.dst u h3) (wanted_put oi a o.dst u h3)
  refine ⟨o, ho, hh.imp ?_ ?_⟩
  · rintro ⟨u, hyj, hk⟩
    refine ⟨u, hyj.of_same (execOp_put o hsj a oi.dst v h1).symm (wanted_put o a oi.dst v h1).symm, hsame u, ?_⟩
    rw [← Act.put_comm a v u h2]; exact hk
  · rintro ⟨s, Φ, ⟨c1, c2, c3⟩, hk⟩
    rw [execOp_put o hsj a oi.dst v h1] at c3
    rw [wanted_put o a oi.dst v h1] at c2
    refine ⟨s, Φ, ⟨c1, c2, c3⟩, fun S' u hs hu => ⟨(hsame u).sub hs, ?_⟩⟩
    rw [← Act.put_comm a v u h2]; exact hk S' u hs hu
theorem wpG_first {ks : List Nat} {Q : Cls → Act → Prop} {i : Nat} {oi : Oper} {v : Value} (hi : ops[i]? = some oi) (hsel : ∀ (j : Nat) (o : Oper) cs b, ops[j]? = some o → o.op ≠ .select cs b) :
    ∀ (n : Nat) (S : Cls) (l : Array Bool) (a : Act),
      (∀ j oj, ops[j]? = some oj → j ≠ i → l.getD j true = false → (∀ e ∈ oj.after, Region.binds .any e = true → e.on ≠ i) → oi.apart ops oj = true) →
      i ∈ Region.ready .any ops l → YP P ops ks S i oi v a →
      wpG P ops ks Q n S (l.setIfInBounds i true) (a.put oi.dst v) → wpG P ops ks Q (n + 1) S l a := by
  intro n
  induction n with
  | zero =>
    intro S l a _ hr hy H
    refine ⟨fun h => (by rw [h] at hr; cases hr), fun j hj => ?_⟩
    by_cases hji : j = i
    · subst hji; exact ⟨oi, hi, .inl ⟨v, hy, H⟩⟩
    · have := ready_mono hj hji
      rw [H.1] at this
      cases this
  | succ n ih =>
    intro S l a hfree hr hy H
    refine ⟨fun h => (by rw [h] at hr; cases hr), fun j hj => ?_⟩
    by_cases hji : j = i
    · subst hji; exact ⟨oi, hi, .inl ⟨v, hy, H⟩⟩
    · have h1 := H.2 j (ready_mono hj hji)
      obtain ⟨hjun, oj, hoj, hall⟩ := mem_ready.1 hj
      have hnot : ∀ e ∈ oj.after, Region.binds .any e = true → e.on ≠ i := fun e he hb heq => by
        have h1 := hall e he hb
        have h0 := (mem_ready.1 hr).1
        rw [heq] at h1
        rcases Nat.lt_or_ge i l.size with h' | h'
        · simp [h'] at h0 h1; rw [h0] at h1; cases h1
        · simp [Array.getElem?_eq_none h'] at h1
      have h2 := gOp_put hoj (hfree j oj hoj hji hjun hnot) (fun cs b => hsel i oi cs b hi) (fun cs b => hsel j oj cs b hoj) hy h1
      have hfree' : ∀ k ok, ops[k]? = some ok → k ≠ i → (l.setIfInBounds j true).getD k true = false →
          (∀ e ∈ ok.after, Region.binds .any e = true → e.on ≠ i) → oi.apart ops ok = true := fun k ok hk hki hun hno => by
        refine hfree k ok hk hki ?_ hno
        by_cases hjk : j = k
        · subst hjk; exact hjun
        · rw [getD_set_ne true hjk] at hun; exact hun
      refine gOp_mono (fun S' a' _ h3 => ih S' (l.setIfInBounds j true) a' hfree' (ready_mono hr (Ne.symm hji)) h3.1 ?_) h2
      rw [Array.setIfInBounds_comm _ _ hji]
      exact h3.2
/-- an order in which a chain's operation comes alone -/
def okS (ops : Array Oper) (ks : List Nat) : List Nat → Array Bool → Bool
  | [], l => (Region.ready .any ops l).isEmpty
  | i :: r, l => (if ks.contains i then Region.ready .any ops l == [i] else (Region.ready .any ops l).contains i && Region.free .any ops l i) && okS ops ks r (l.setIfInBounds i true)
/-- the walk in that order -/
def wpS (P : Program) (ops : Array Oper) (ks : List Nat) (Q : Cls → Act → Prop) : List Nat → Cls → Act → Prop
  | [], S, a => Q S a
  | i :: r, S, a => gOp P ops ks S i (fun S' a' => wpS P ops ks Q r S' a') a
theorem wpG_of_S {ks : List Nat} {Q : Cls → Act → Prop} (hs : Region.noSelect ops = true) : ∀ (r : List Nat) (S : Cls) (l : Array Bool) (a : Act), okS ops ks r l = true → wpS P ops ks Q r S a → wpG P ops ks Q r.length S l a
  | [], _, _, _, hB, h => ⟨by simpa [okS] using hB, h⟩
  | i :: r, S, l, a, hB, h => by
    simp only [okS, Bool.and_eq_true] at hB
    obtain ⟨hB1, hB2⟩ := hB
    obtain ⟨o, ho, hh⟩ := h
    by_cases hk : ks.contains i = true
    · rw [if_pos hk] at hB1
      have hr : Region.ready .any ops l = [i] := by simpa using hB1
      refine ⟨fun h0 => (by rw [hr] at h0; cases h0), fun j hj => ?_⟩
      rw [hr, List.mem_singleton] at hj
      subst hj
      refine ⟨o, ho, hh.imp ?_ ?_⟩
      · rintro ⟨v, h1, h2⟩
        exact ⟨v, h1, wpG_of_S hs r _ _ _ hB2 h2⟩
      · rintro ⟨s, Φ, h1, h2⟩
        exact ⟨s, Φ, h1, fun S' u h3 h4 => wpG_of_S hs r _ _ _ hB2 (h2 S' u h3 h4)⟩
    · rw [if_neg hk, Bool.and_eq_true] at hB1
      rcases hh with ⟨v, h1, h2⟩ | ⟨s, Φ, h1, _⟩
      · exact wpG_first ho (Region.noSelect_spec hs) r.length S l a (Region.free_spec ho hB1.2) (by simpa using hB1.1) h1 (wpG_of_S hs r _ _ _ hB2 h2)
      · exact absurd (by simpa using List.mem_of_getElem? h1.1) hk
/-- a region that draws its order, walked once in the order r -/
theorem wp_region_sched {id : Nat} {Q : Exit → Act → World → Prop} {a : Act} {w : World} {L : List Oper} (S : Cls) (ks r : List Nat) (hm : P.follows .mixedOrders = true) (hB : Region.lexB .any L.toArray = true)
    (hks : ks.all (fun k => decide (k < L.length)) = true) (hch : chainB L.toArray ks = true ∧ ks.Nodup) (hlen : r.length = L.length) (hr : okS L.toArray ks r (Array.replicate L.length false) = true) (hS : S 0 w.drew)
    (h : wpS P L.toArray ks (fun S' a' => ∀ w', S' ks.length w' → Q .normal a' w') r S a) : (Code.region id L.toArray true).wp P Q a w := by
  have hB' := hB
  simp only [Region.lexB, Bool.and_eq_true] at hB'
  refine wp_region_any hm (wpAny_of_G (ks := ks) (Q := fun S' a' => ∀ w', S' ks.length w' → Q .normal a' w') hch ?_ _ S _ _ _ ?_ ?_)
  · intro S' a l w' hr ⟨hsh, j, hj, hS', hl⟩ hq
    refine hq w' ?_
    suffices j = ks.length by rw [← this]; exact hS'
    rcases Nat.lt_or_ge j ks.length with hlt | hge
    · exfalso
      have h1 := hl j _ (List.getElem?_eq_getElem hlt)
      have h2 := List.all_eq_true.1 hks ks[j] (List.getElem_mem hlt)
      have h3 := all_listed hB hsh.1 hr ks[j] (by simpa using h2)
      have := h1.1 h3
      omega
    · omega
  · refine ⟨⟨by simp, fun i o ho hi => by rw [rep_false] at hi; cases hi⟩, 0, by omega, hS, fun s k hk => by rw [rep_false]; simp⟩
  · have := wpG_of_S (P := P) (ks := ks) (Q := fun S' a' => ∀ w', S' ks.length w' → Q .normal a' w') hB'.1 r S (Array.replicate L.length false) a hr h
    rw [hlen] at this
    simpa using this
section
variable {Q : Cls → Act → Prop} {i : Nat} {o : Oper} {r ks : List Nat} {a : Act} {S : Cls}
/-- it yields v, whatever the world of the classes is -/
theorem g_val (v : Value) (ho : ops[i]? = some o) (hi : ks.contains i = false) (hw : Region.wanted o (yielded ops a.tmps) = true) (hv : ∀ j w, j ≤ ks.length → S j w → (execOp a.eval o).run P w = .ok (.value v) w) (h : wpS P ops ks Q r S (a.put o.dst v)) : wpS P ops ks Q (i :: r) S a :=
  ⟨o, ho, .inl ⟨v, ⟨hi, .inl ⟨hw, fun _ w _ ⟨_, j, hj, hS, _⟩ => hv j w hj hS⟩⟩, h⟩⟩
theorem g_skip (ho : ops[i]? = some o) (hi : ks.contains i = false) (hw : Region.wanted o (yielded ops a.tmps) = false) (h : wpS P ops ks Q r S (a.put o.dst undef)) : wpS P ops ks Q (i :: r) S a :=
  ⟨o, ho, .inl ⟨undef, ⟨hi, .inr ⟨hw, rfl⟩⟩, h⟩⟩
/-- it yields v; the stage is s or more -/
theorem g_from (s : Nat) (v : Value) (ho : ops[i]? = some o) (hi : ks.contains i = false) (hw : Region.wanted o (yielded ops a.tmps) = true) (hlo : s = 0 ∨ ((ks[s - 1]?).map fun k => isAnc ops k i).getD false = true)
    (hv : ∀ j w, s ≤ j → S j w → (execOp a.eval o).run P w = .ok (.value v) w) (h : wpS P ops ks Q r S (a.put o.dst v)) : wpS P ops ks Q (i :: r) S a := by
  refine ⟨o, ho, .inl ⟨v, ⟨hi, .inl ⟨hw, fun l w hr ⟨hsh, j, hj, hS, hl⟩ => hv j w ?_ hS⟩⟩, h⟩⟩
  rcases hlo with h0 | h0
  · omega
  · cases hk : ks[s - 1]? with
    | none => simp [hk] at h0
    | some k =>
      simp only [hk, Option.map_some, Option.getD_some] at h0
      have := (stage_bounds hsh hr hl).1 (s - 1) k hk h0 (fun e => by subst e; have := List.mem_of_getElem? hk; simp [this] at hi)
      omega
/-- the chain's next -/
theorem g_step (s : Nat) (Φ : Cls → Value → Prop) (ho : ops[i]? = some o) (hi : ks[s]? = some i) (hw : Region.wanted o (yielded ops a.tmps) = true)
    (hv : ∀ w, S s w → XUp P (fun u w' => ∃ S', Sub S' S ∧ S' (s + 1) w' ∧ Φ S' u) ((execOp a.eval o).run P w)) (h : ∀ S' u, Sub S' S → Φ S' u → wpS P ops ks Q r S' (a.put o.dst u)) : wpS P ops ks Q (i :: r) S a :=
  ⟨o, ho, .inr ⟨s, Φ, ⟨hi, hw, hv⟩, h⟩⟩
theorem g_nil (h : Q S a) : wpS P ops ks Q [] S a := h
end
/-- the operation's own text, found by its number: 'apply opN', then 'OpAt.z' or 'OpAt.s' as often as it wants -/
inductive OpAt : List Oper → Nat → Oper → Prop
  | z (o : Oper) (l : List Oper) : OpAt (o :: l) 0 o
  | s (x : Oper) {l : List Oper} {i : Nat} {o : Oper} : OpAt l i o → OpAt (x :: l) (i + 1) o
theorem opN {l : List Oper} {i : Nat} {o : Oper} (h : OpAt l i o) : l.toArray[i]? = some o := by
  induction h with
  | z o l => rfl
  | s x h ih => rw [List.getElem?_toArray] at ih ⊢; exact ih
end Go.Proofs.YtllbphanfahkkaaGreatDoor.RG

/-
  Regions that draw their order, where several operations that change the memory may come up in more than one order: walked along a tree of schedules; the classes speak of what has come up: no condition beyond each theorem's own premises.
-/
namespace Go.Proofs.YtllbphanfahkkaaGreatDoor.RG
open Go
variable {P : Program} {ops : Array Oper} {Pn : List PanicEntry → World → Prop}
/-- the classes of worlds, by what of the chain has come up -/
abbrev Clh := List Nat → World → Prop
def SubH (S' S : Clh) : Prop := ∀ h w, S' h w → S h w
theorem SubH.refl (S : Clh) : SubH S S := fun _ _ h => h
def CH (ops : Array Oper) (S : Clh) (ks : List Nat) (h : List Nat) (l : Array Bool) (w : World) : Prop :=
  Shut ops l ∧ S h w ∧ ∀ k ∈ ks, (l.getD k false = true ↔ k ∈ h)
theorem CH.keep {S : Clh} {ks h : List Nat} {l : Array Bool} {i : Nat} {w : World} (hc : CH ops S ks h l w) (hr : rdy ops l i) (hi : i ∉ ks) : CH ops S ks h (l.setIfInBounds i true) w :=
  ⟨hc.1.set hr, hc.2.1, fun k hk => by rw [getD_set_ne false (fun e => hi (by subst e; exact hk))]; exact hc.2.2 k hk⟩
theorem CH.next {S S' : Clh} {ks h : List Nat} {l : Array Bool} {i : Nat} {w w' : World} (hc : CH ops S ks h l w) (hr : rdy ops l i) (hS : S' (h ++ [i]) w') : CH ops S' ks (h ++ [i]) (l.setIfInBounds i true) w' := by
  refine ⟨hc.1.set hr, hS, fun k hk => ?_⟩
  have hlt : i < l.size := by
    obtain ⟨_, o, ho, _⟩ := mem_ready.1 hr
    rw [hc.1.1]; exact (Array.getElem?_eq_some_iff.1 ho).1
  by_cases hik : i = k
  · subst hik
    simp [hlt]
  · rw [getD_set_ne false hik, hc.2.2 k hk, List.mem_append, List.mem_singleton]
    exact ⟨.inl, fun h => h.resolve_right (Ne.symm hik)⟩
def YH (P : Program) (ops : Array Oper) (ks : List Nat) (S : Clh) (i : Nat) (o : Oper) (v : Value) (a : Act) : Prop :=
  ks.contains i = false ∧ ((Region.wanted o (yielded ops a.tmps) = true ∧ ∀ h l w, rdy ops l i → CH ops S ks h l w → (execOp a.eval o).run P w = .ok (.value v) w) ∨ (Region.wanted o (yielded ops a.tmps) = false ∧ v = undef))
theorem CH.sub {S S' : Clh} {ks h : List Nat} {l : Array Bool} {w : World} (hs : SubH S' S) (hc : CH ops S' ks h l w) : CH ops S ks h l w := ⟨hc.1, hs _ _ hc.2.1, hc.2.2⟩
theorem YH.sub {ks : List Nat} {S S' : Clh} {i : Nat} {o : Oper} {v : Value} {a : Act} (hs : SubH S' S) (h : YH P ops ks S i o v a) : YH P ops ks S' i o v a :=
  ⟨h.1, h.2.imp (fun h => ⟨h.1, fun g l w hr hc => h.2 g l w hr (CH.sub hs hc)⟩) id⟩
theorem YH.of_same {ks : List Nat} {S : Clh} {i : Nat} {o : Oper} {v : Value} {a a' : Act} (hy : YH P ops ks S i o v a) (he : execOp a'.eval o = execOp a.eval o)
    (hw : Region.wanted o (yielded ops a'.tmps) = Region.wanted o (yielded ops a.tmps)) : YH P ops ks S i o v a' := by
  unfold YH at *
  rw [he, hw]
  exact hy
/-- as XUp, or the callee ends in a panic of which Pn holds -/
def XUpP (P : Program) (Pn : List PanicEntry → World → Prop) (D : Value → World → Prop) : Result Next → Prop
  | .ok (.value u) w' => D u w'
  | .ok .skip w' => D undef w'
  | .ok (.enter f args) w' => Calls P f args w' fun e w'' => (∃ u, e = .returned u ∧ D u w'') ∨ ∃ c, e = .panicked c ∧ Pn c w''
  | _ => False
theorem XUp.toP {D : Value → World → Prop} {r : Result Next} (h : XUp P D r) : XUpP P Pn D r := by
  cases r with
  | ok n w' =>
    cases n <;> simp only [XUp, XUpP] at h ⊢
    case value u => exact h
    case skip => exact h
    case enter f args => exact Calls.mono h fun e w'' h1 => .inl h1
  | halt x w' => simp only [XUp] at h
theorem put_defers (a : Act) (dst : Option Tmp) (v : Value) : (a.put dst v).defers = a.defers := by cases dst <;> rfl
def ChH (P : Program) (Pn : List PanicEntry → World → Prop) (ops : Array Oper) (ks : List Nat) (S : Clh) (h : List Nat) (i : Nat) (o : Oper) (a : Act) (Φ : Clh → Value → Prop) : Prop :=
  ks.contains i = true ∧ Region.wanted o (yielded ops a.tmps) = true ∧ ∀ w, S h w → XUpP P Pn (fun u w' => ∃ S', SubH S' S ∧ S' (h ++ [i]) w' ∧ Φ S' u) ((execOp a.eval o).run P w)
def gOh (P : Program) (Pn : List PanicEntry → World → Prop) (ops : Array Oper) (ks : List Nat) (h : List Nat) (S : Clh) (i : Nat) (K : List Nat → Clh → Act → Prop) (a : Act) : Prop :=
  ∃ o, ops[i]? = some o ∧ ((∃ v, YH P ops ks S i o v a ∧ K h S (a.put o.dst v)) ∨ ∃ Φ, ChH P Pn ops ks S h i o a Φ ∧ ∀ S' u, SubH S' S → Φ S' u → K (h ++ [i]) S' (a.put o.dst u))
theorem gOh_mono {ks h : List Nat} {S : Clh} {i : Nat} {a : Act} {K K' : List Nat → Clh → Act → Prop} (hk : ∀ h' S' a, SubH S' S → K h' S' a → K' h' S' a) (hh : gOh P Pn ops ks h S i K a) : gOh P Pn ops ks h S i K' a := by
  obtain ⟨o, h1, h2⟩ := hh
  refine ⟨o, h1, h2.imp ?_ ?_⟩
  · rintro ⟨v, h3, h4⟩
    exact ⟨v, h3, hk _ _ _ (SubH.refl _) h4⟩
  · rintro ⟨Φ, h3, h4⟩
    exact ⟨Φ, h3, fun S' u hs hu => hk _ _ _ hs (h4 S' u hs hu)⟩
def wpH (P : Program) (Pn : List PanicEntry → World → Prop) (ops : Array Oper) (ks : List Nat) (Q : List Nat → Clh → Act → Prop) : Nat → List Nat → Clh → Array Bool → Act → Prop
  | 0, h, S, l, a => Region.ready .any ops l = [] ∧ Q h S a
  | n + 1, h, S, l, a => (Region.ready .any ops l = [] → Q h S a) ∧ ∀ i ∈ Region.ready .any ops l, gOh P Pn ops ks h S i (fun h' S' a' => wpH P Pn ops ks Q n h' S' (l.setIfInBounds i true) a') a
theorem wpAny_of_H {ks : List Nat} {Q : List Nat → Clh → Act → Prop} {Q' : Exit → Act → World → Prop} {d0 : List Deferred} (hpn : ∀ c a' w', a'.defers = d0 → Pn c w' → Q' (.panic c) a' w') (hQ : ∀ h S a l w, Region.ready .any ops l = [] → CH ops S ks h l w → Q h S a → Q' .normal a w) :
    ∀ (n : Nat) (h : List Nat) (S : Clh) (l : Array Bool) (a : Act) (w : World), a.defers = d0 → CH ops S ks h l w → wpH P Pn ops ks Q n h S l a → wpAny P .any ops Q' n l a w
  | 0, _, _, _, _, _, _, hw, h => ⟨h.1, hQ _ _ _ _ _ h.1 hw h.2⟩
  | n + 1, g, S, l, a, w, hd0, hw, h => by
    refine ⟨fun h0 => hQ _ _ _ _ _ h0 hw (h.1 h0), fun i hi => ?_⟩
    obtain ⟨o, ho, hh⟩ := h.2 i hi
    unfold wpOp
    simp only [ho]
    rcases hh with ⟨v, ⟨hk, hy⟩, hK⟩ | ⟨Φ, ⟨_, hwt, hC⟩, hK⟩
    · have hk' : i ∉ ks := by simpa using hk
      rcases hy with ⟨h1, h2⟩ | ⟨h1, rfl⟩
      · rw [if_pos h1]
        refine .inl ?_
        unfold Oper.wp
        rw [h2 g l w hi hw]
        exact wpAny_of_H hpn hQ n _ _ _ _ _ ((put_defers _ _ _).trans hd0) (hw.keep hi hk') hK
      · rw [if_neg (by rw [h1]; simp)]
        exact wpAny_of_H hpn hQ n _ _ _ _ _ ((put_defers _ _ _).trans hd0) (hw.keep hi hk') hK
    · rw [if_pos hwt]
      refine .inl ?_
      have h3 := hC w hw.2.1
      unfold Oper.wp
      generalize (execOp a.eval o).run P w = r at *
      cases r with
      | ok n' w' =>
        cases n' <;> simp only [XUpP] at h3 <;> simp only [Oper.upon]
        case value u =>
          obtain ⟨S', hs1, hs2, hs3⟩ := h3
          exact wpAny_of_H hpn hQ n _ _ _ _ _ ((put_defers _ _ _).trans hd0) (hw.next hi hs2) (hK S' u hs1 hs3)
        case skip =>
          obtain ⟨S', hs1, hs2, hs3⟩ := h3
          exact wpAny_of_H hpn hQ n _ _ _ _ _ ((put_defers _ _ _).trans hd0) (hw.next hi hs2) (hK S' undef hs1 hs3)
        case enter f args =>
          refine Calls.mono h3 ?_
          rintro e w'' (⟨u, rfl, S', hs1, hs2, hs3⟩ | ⟨c, rfl, hp⟩)
          case inr => exact hpn c a w'' hd0 hp
          exact wpAny_of_H hpn hQ n _ _ _ _ _ ((put_defers _ _ _).trans hd0) (hw.next hi hs2) (hK S' u hs1 hs3)
      | halt x w' => simp only [XUpP] at h3
theorem gOh_put {ks h : List Nat} {S : Clh} {i j : Nat} {oi oj : Oper} {v : Value} (hj : ops[j]? = some oj) (hap : oi.apart ops oj = true)
    (hsi : ∀ cs b, oi.op ≠ .select cs b) (hsj : ∀ cs b, oj.op ≠ .select cs b) {K : List Nat → Clh → Act → Prop} {a : Act}
    (hy : YH P ops ks S i oi v a) (hh : gOh P Pn ops ks h S j K (a.put oi.dst v)) : gOh P Pn ops ks h S j (fun h' S' a' => YH P ops ks S' i oi v a' ∧ K h' S' (a'.put oi.dst v)) a := by
  obtain ⟨h1, h2, h3⟩ := Oper.apart_spec hap
  obtain ⟨o, ho, hh⟩ := hh
  obtain rfl : o = oj := Option.some.inj (ho.symm.trans hj)
  have hsame : ∀ u, YH P ops ks S i oi v (a.put o.dst u) := fun u => hy.of_same (execOp_put oi hsi a o.dst u h3) (wanted_put oi a o.dst u h3)
  refine ⟨o, ho, hh.imp ?_ ?_⟩
  · rintro ⟨u, hyj, hk⟩
    refine ⟨u, hyj.of_same (execOp_put o hsj a oi.dst v h1).symm (wanted_put o a oi.dst v h1).symm, hsame u, ?_⟩
    rw [← Act.put_comm a v u h2]; exact hk
  · rintro ⟨Φ, ⟨c1, c2, c3⟩, hk⟩
    rw [execOp_put o hsj a oi.dst v h1] at c3
    rw [wanted_put o a oi.dst v h1] at c2
    refine ⟨Φ, ⟨c1, c2, c3⟩, fun S' u hs hu => ⟨(hsame u).sub hs, ?_⟩⟩
    rw [← Act.put_comm a v u h2]; exact hk S' u hs hu
theorem wpH_first {ks : List Nat} {Q : List Nat → Clh → Act → Prop} {i : Nat} {oi : Oper} {v : Value} (hi : ops[i]? = some oi) (hsel : ∀ (j : Nat) (o : Oper) cs b, ops[j]? = some o → o.op ≠ .select cs b) :
    ∀ (n : Nat) (h : List Nat) (S : Clh) (l : Array Bool) (a : Act),
      (∀ j oj, ops[j]? = some oj → j ≠ i → l.getD j true = false → (∀ e ∈ oj.after, Region.binds .any e = true → e.on ≠ i) → oi.apart ops oj = true) →
      i ∈ Region.ready .any ops l → YH P ops ks S i oi v a →
      wpH P Pn ops ks Q n h S (l.setIfInBounds i true) (a.put oi.dst v) → wpH P Pn ops ks Q (n + 1) h S l a := by
  intro n
  induction n with
  | zero =>
    intro h S l a _ hr hy H
    refine ⟨fun h => (by rw [h] at hr; cases hr), fun j hj => ?_⟩
    by_cases hji : j = i
    · subst hji; exact ⟨oi, hi, .inl ⟨v, hy, H⟩⟩
    · have := ready_mono hj hji
      rw [H.1] at this
      cases this
  | succ n ih =>
    intro h S l a hfree hr hy H
    refine ⟨fun h => (by rw [h] at hr; cases hr), fun j hj => ?_⟩
    by_cases hji : j = i
    · subst hji; exact ⟨oi, hi, .inl ⟨v, hy, H⟩⟩
    · have h1 := H.2 j (ready_mono hj hji)
      obtain ⟨hjun, oj, hoj, hall⟩ := mem_ready.1 hj
      have hnot : ∀ e ∈ oj.after, Region.binds .any e = true → e.on ≠ i := fun e he hb heq => by
        have h1 := hall e he hb
        have h0 := (mem_ready.1 hr).1
        rw [heq] at h1
        rcases Nat.lt_or_ge i l.size with h' | h'
        · simp [h'] at h0 h1; rw [h0] at h1; cases h1
        · simp [Array.getElem?_eq_none h'] at h1
      have h2 := gOh_put hoj (hfree j oj hoj hji hjun hnot) (fun cs b => hsel i oi cs b hi) (fun cs b => hsel j oj cs b hoj) hy h1
      have hfree' : ∀ k ok, ops[k]? = some ok → k ≠ i → (l.setIfInBounds j true).getD k true = false →
          (∀ e ∈ ok.after, Region.binds .any e = true → e.on ≠ i) → oi.apart ops ok = true := fun k ok hk hki hun hno => by
        refine hfree k ok hk hki ?_ hno
        by_cases hjk : j = k
        · subst hjk; exact hjun
        · rw [getD_set_ne true hjk] at hun; exact hun
      refine gOh_mono (fun h' S' a' _ h3 => ih h' S' (l.setIfInBounds j true) a' hfree' (ready_mono hr (Ne.symm hji)) h3.1 ?_) h2
      rw [Array.setIfInBounds_comm _ _ hji]
      exact h3.2
/-- a tree of schedules: an operation, or two that may come up in either order -/
inductive Tr
  | nil
  | op (i : Nat) (r : Tr)
  | fork (i : Nat) (r : Tr) (k : Nat) (s : Tr)
  | fork3 (i : Nat) (r : Tr) (k : Nat) (s : Tr) (m : Nat) (t : Tr)
def Tr.len : Tr → Nat
  | .nil => 0
  | .op _ r => r.len + 1
  | .fork _ r _ _ => r.len + 1
  | .fork3 _ r _ _ _ _ => r.len + 1
def okH (ops : Array Oper) (ks : List Nat) : Tr → Array Bool → Bool
  | .nil, l => (Region.ready .any ops l).isEmpty
  | .op i r, l => (if ks.contains i then Region.ready .any ops l == [i] else (Region.ready .any ops l).contains i && Region.free .any ops l i) && okH ops ks r (l.setIfInBounds i true)
  | .fork i r k s, l => Region.ready .any ops l == [i, k] && ks.contains i && ks.contains k && r.len == s.len && okH ops ks r (l.setIfInBounds i true) && okH ops ks s (l.setIfInBounds k true)
  | .fork3 i r k s m t, l => Region.ready .any ops l == [i, k, m] && ks.contains i && ks.contains k && ks.contains m && r.len == s.len && r.len == t.len && okH ops ks r (l.setIfInBounds i true) && okH ops ks s (l.setIfInBounds k true) && okH ops ks t (l.setIfInBounds m true)
/-- the walk along the tree -/
def wpT (P : Program) (Pn : List PanicEntry → World → Prop) (ops : Array Oper) (ks : List Nat) (Q : List Nat → Clh → Act → Prop) : Tr → List Nat → Clh → Act → Prop
  | .nil, h, S, a => Q h S a
  | .op i r, h, S, a => gOh P Pn ops ks h S i (fun h' S' a' => wpT P Pn ops ks Q r h' S' a') a
  | .fork i r k s, h, S, a => gOh P Pn ops ks h S i (fun h' S' a' => wpT P Pn ops ks Q r h' S' a') a ∧ gOh P Pn ops ks h S k (fun h' S' a' => wpT P Pn ops ks Q s h' S' a') a
  | .fork3 i r k s m t, h, S, a => gOh P Pn ops ks h S i (fun h' S' a' => wpT P Pn ops ks Q r h' S' a') a ∧ gOh P Pn ops ks h S k (fun h' S' a' => wpT P Pn ops ks Q s h' S' a') a ∧ gOh P Pn ops ks h S m (fun h' S' a' => wpT P Pn ops ks Q t h' S' a') a
theorem wpH_of_T {ks : List Nat} {Q : List Nat → Clh → Act → Prop} (hs : Region.noSelect ops = true) : ∀ (r : Tr) (h : List Nat) (S : Clh) (l : Array Bool) (a : Act), okH ops ks r l = true → wpT P Pn ops ks Q r h S a → wpH P Pn ops ks Q r.len h S l a
  | .nil, _, _, _, _, hB, h => ⟨by simpa [okH] using hB, h⟩
  | .op i r, g, S, l, a, hB, h => by
    simp only [okH, Bool.and_eq_true] at hB
    obtain ⟨hB1, hB2⟩ := hB
    obtain ⟨o, ho, hh⟩ := h
    by_cases hk : ks.contains i = true
    · rw [if_pos hk] at hB1
      have hr : Region.ready .any ops l = [i] := by simpa using hB1
      refine ⟨fun h0 => (by rw [hr] at h0; cases h0), fun j hj => ?_⟩
      rw [hr, List.mem_singleton] at hj
      subst hj
      exact gOh_mono (fun h' S' a' _ h3 => wpH_of_T hs r _ _ _ _ hB2 h3) ⟨o, ho, hh⟩
    · rw [if_neg hk, Bool.and_eq_true] at hB1
      rcases hh with ⟨v, h1, h2⟩ | ⟨Φ, h1, _⟩
      · exact wpH_first ho (Region.noSelect_spec hs) r.len g S l a (Region.free_spec ho hB1.2) (by simpa using hB1.1) h1 (wpH_of_T hs r _ _ _ _ hB2 h2)
      · exact absurd h1.1 hk
  | .fork i r k s, g, S, l, a, hB, h => by
    simp only [okH, Bool.and_eq_true] at hB
    obtain ⟨⟨⟨⟨⟨hB1, _⟩, _⟩, hlen⟩, hB2⟩, hB3⟩ := hB
    have hr : Region.ready .any ops l = [i, k] := by simpa using hB1
    have hlen : r.len = s.len := by simpa using hlen
    refine ⟨fun h0 => (by rw [hr] at h0; cases h0), fun j hj => ?_⟩
    rw [hr, List.mem_cons, List.mem_singleton] at hj
    rcases hj with rfl | rfl
    · exact gOh_mono (fun h' S' a' _ h3 => wpH_of_T hs r _ _ _ _ hB2 h3) h.1
    · refine gOh_mono (fun h' S' a' _ h3 => ?_) h.2
      show wpH P Pn ops ks Q r.len _ _ _ _
      rw [hlen]
      exact wpH_of_T hs s _ _ _ _ hB3 h3
  | .fork3 i r k s m t, g, S, l, a, hB, h => by
    simp only [okH, Bool.and_eq_true] at hB
    obtain ⟨⟨⟨⟨⟨⟨⟨⟨hB1, _⟩, _⟩, _⟩, hlen⟩, hlen2⟩, hB2⟩, hB3⟩, hB4⟩ := hB
    have hr : Region.ready .any ops l = [i, k, m] := by simpa using hB1
    have hlen : r.len = s.len := by simpa using hlen
    have hlen2 : r.len = t.len := by simpa using hlen2
    refine ⟨fun h0 => (by rw [hr] at h0; cases h0), fun j hj => ?_⟩
    rw [hr, List.mem_cons, List.mem_cons, List.mem_singleton] at hj
    rcases hj with rfl | rfl | rfl
    · exact gOh_mono (fun h' S' a' _ h3 => wpH_of_T hs r _ _ _ _ hB2 h3) h.1
    · refine gOh_mono (fun h' S' a' _ h3 => ?_) h.2.1
      show wpH P Pn ops ks Q r.len _ _ _ _
      rw [hlen]
      exact wpH_of_T hs s _ _ _ _ hB3 h3
    · refine gOh_mono (fun h' S' a' _ h3 => ?_) h.2.2
      show wpH P Pn ops ks Q r.len _ _ _ _
      rw [hlen2]
      exact wpH_of_T hs t _ _ _ _ hB4 h3
/-- a region that draws its order, walked along the tree r -/
theorem wp_region_treeP {id : Nat} {Q : Exit → Act → World → Prop} {a : Act} {w : World} {L : List Oper} (Pn : List PanicEntry → World → Prop) (hpn : ∀ c a' w', a'.defers = a.defers → Pn c w' → Q (.panic c) a' w') (S : Clh) (ks : List Nat) (r : Tr) (hm : P.follows .mixedOrders = true) (hB : Region.lexB .any L.toArray = true)
    (hlen : r.len = L.length) (hr : okH L.toArray ks r (Array.replicate L.length false) = true) (hS : S [] w.drew)
    (h : wpT P Pn L.toArray ks (fun h' S' a' => ∀ w', S' h' w' → Q .normal a' w') r [] S a) : (Code.region id L.toArray true).wp P Q a w := by
  have hB' := hB
  simp only [Region.lexB, Bool.and_eq_true] at hB'
  refine wp_region_any hm (wpAny_of_H (ks := ks) (Pn := Pn) (d0 := a.defers) (Q := fun h' S' a' => ∀ w', S' h' w' → Q .normal a' w') hpn (fun h S' a l w' _ hc hq => hq w' hc.2.1) _ [] S _ _ _ rfl ?_ ?_)
  · exact ⟨⟨by simp, fun i o ho hi => by rw [rep_false] at hi; cases hi⟩, hS, fun k _ => by rw [rep_false]; simp⟩
  · have := wpH_of_T (P := P) (Pn := Pn) (ks := ks) (Q := fun h' S' a' => ∀ w', S' h' w' → Q .normal a' w') hB'.1 r [] S (Array.replicate L.length false) a hr h
    rw [hlen] at this
    simpa using this
theorem wp_region_tree {id : Nat} {Q : Exit → Act → World → Prop} {a : Act} {w : World} {L : List Oper} (S : Clh) (ks : List Nat) (r : Tr) (hm : P.follows .mixedOrders = true) (hB : Region.lexB .any L.toArray = true)
    (hlen : r.len = L.length) (hr : okH L.toArray ks r (Array.replicate L.length false) = true) (hS : S [] w.drew)
    (h : wpT P (fun _ _ => False) L.toArray ks (fun h' S' a' => ∀ w', S' h' w' → Q .normal a' w') r [] S a) : (Code.region id L.toArray true).wp P Q a w :=
  wp_region_treeP (fun _ _ => False) (fun _ _ _ _ h => h.elim) S ks r hm hB hlen hr hS h
section
variable {Q : List Nat → Clh → Act → Prop} {i k : Nat} {o : Oper} {r s : Tr} {ks h : List Nat} {a : Act} {S : Clh}
/-- it yields v, whatever the world of the classes is -/
theorem h_val (v : Value) (ho : ops[i]? = some o) (hi : ks.contains i = false) (hw : Region.wanted o (yielded ops a.tmps) = true) (hv : ∀ g w, S g w → (execOp a.eval o).run P w = .ok (.value v) w) (hk : wpT P Pn ops ks Q r h S (a.put o.dst v)) : wpT P Pn ops ks Q (.op i r) h S a :=
  ⟨o, ho, .inl ⟨v, ⟨hi, .inl ⟨hw, fun g _ w _ hc => hv g w hc.2.1⟩⟩, hk⟩⟩
theorem h_skip (ho : ops[i]? = some o) (hi : ks.contains i = false) (hw : Region.wanted o (yielded ops a.tmps) = false) (hk : wpT P Pn ops ks Q r h S (a.put o.dst undef)) : wpT P Pn ops ks Q (.op i r) h S a :=
  ⟨o, ho, .inl ⟨undef, ⟨hi, .inr ⟨hw, rfl⟩⟩, hk⟩⟩
/-- it yields v; k has come up -/
theorem h_from (k : Nat) (v : Value) (ho : ops[i]? = some o) (hi : ks.contains i = false) (hk : ks.contains k = true) (ha : isAnc ops k i = true) (hw : Region.wanted o (yielded ops a.tmps) = true)
    (hv : ∀ g w, k ∈ g → S g w → (execOp a.eval o).run P w = .ok (.value v) w) (hn : wpT P Pn ops ks Q r h S (a.put o.dst v)) : wpT P Pn ops ks Q (.op i r) h S a := by
  refine ⟨o, ho, .inl ⟨v, ⟨hi, .inl ⟨hw, fun g l w hr hc => hv g w ?_ hc.2.1⟩⟩, hn⟩⟩
  have hm : k ∈ ks := by simpa using hk
  exact (hc.2.2 k hm).1 (isAnc_ready hc.1 ha (fun e => by subst e; rw [hk] at hi; cases hi) hr)
/-- one of the chain -/
theorem h_oneP (Φ : Clh → Value → Prop) (ho : ops[i]? = some o) (hi : ks.contains i = true) (hw : Region.wanted o (yielded ops a.tmps) = true)
    (hv : ∀ w, S h w → XUpP P Pn (fun u w' => ∃ S', SubH S' S ∧ S' (h ++ [i]) w' ∧ Φ S' u) ((execOp a.eval o).run P w)) (hn : ∀ S' u, SubH S' S → Φ S' u → wpT P Pn ops ks Q r (h ++ [i]) S' (a.put o.dst u)) : gOh P Pn ops ks h S i (fun h' S' a' => wpT P Pn ops ks Q r h' S' a') a :=
  ⟨o, ho, .inr ⟨Φ, ⟨hi, hw, hv⟩, hn⟩⟩
theorem h_one (Φ : Clh → Value → Prop) (ho : ops[i]? = some o) (hi : ks.contains i = true) (hw : Region.wanted o (yielded ops a.tmps) = true)
    (hv : ∀ w, S h w → XUp P (fun u w' => ∃ S', SubH S' S ∧ S' (h ++ [i]) w' ∧ Φ S' u) ((execOp a.eval o).run P w)) (hn : ∀ S' u, SubH S' S → Φ S' u → wpT P Pn ops ks Q r (h ++ [i]) S' (a.put o.dst u)) : gOh P Pn ops ks h S i (fun h' S' a' => wpT P Pn ops ks Q r h' S' a') a :=
  h_oneP Φ ho hi hw (fun w hS => (hv w hS).toP) hn
theorem h_step (Φ : Clh → Value → Prop) (ho : ops[i]? = some o) (hi : ks.contains i = true) (hw : Region.wanted o (yielded ops a.tmps) = true)
    (hv : ∀ w, S h w → XUp P (fun u w' => ∃ S', SubH S' S ∧ S' (h ++ [i]) w' ∧ Φ S' u) ((execOp a.eval o).run P w)) (hn : ∀ S' u, SubH S' S → Φ S' u → wpT P Pn ops ks Q r (h ++ [i]) S' (a.put o.dst u)) : wpT P Pn ops ks Q (.op i r) h S a :=
  h_one Φ ho hi hw hv hn
theorem h_fork (h1 : gOh P Pn ops ks h S i (fun h' S' a' => wpT P Pn ops ks Q r h' S' a') a) (h2 : gOh P Pn ops ks h S k (fun h' S' a' => wpT P Pn ops ks Q s h' S' a') a) : wpT P Pn ops ks Q (.fork i r k s) h S a := ⟨h1, h2⟩
theorem h_fork3 {m : Nat} {t : Tr} (h1 : gOh P Pn ops ks h S i (fun h' S' a' => wpT P Pn ops ks Q r h' S' a') a) (h2 : gOh P Pn ops ks h S k (fun h' S' a' => wpT P Pn ops ks Q s h' S' a') a) (h3 : gOh P Pn ops ks h S m (fun h' S' a' => wpT P Pn ops ks Q t h' S' a') a) : wpT P Pn ops ks Q (.fork3 i r k s m t) h S a := ⟨h1, h2, h3⟩
theorem h_nil (hk : Q h S a) : wpT P Pn ops ks Q .nil h S a := hk
end
/-! a class C for all, and what is known of the world at this point -/
def AC (C : Clh) (Ls : List (List Nat × (World → Prop))) : Clh := fun g w => C g w ∧ ∀ p ∈ Ls, g = p.1 → p.2 w
section
variable {Q : List Nat → Clh → Act → Prop} {i k : Nat} {o : Oper} {r s : Tr} {ks h : List Nat} {a : Act} {C : Clh} {K : World → Prop} {Ls : List (List Nat × (World → Prop))}
theorem k_oneP (Φ : (World → Prop) → Value → Prop) (ho : ops[i]? = some o) (hi : ks.contains i = true) (hw : Region.wanted o (yielded ops a.tmps) = true) (hlen : (((h, K) :: Ls).map (·.1)).all (fun g => decide (g.length ≤ h.length)) = true)
    (hv : ∀ w, C h w → K w → XUpP P Pn (fun u w' => C (h ++ [i]) w' ∧ ∃ K', K' w' ∧ Φ K' u) ((execOp a.eval o).run P w)) (hn : ∀ K' u, Φ K' u → wpT P Pn ops ks Q r (h ++ [i]) (AC C ((h ++ [i], K') :: (h, K) :: Ls)) (a.put o.dst u)) :
    gOh P Pn ops ks h (AC C ((h, K) :: Ls)) i (fun h' S' a' => wpT P Pn ops ks Q r h' S' a') a := by
  refine h_oneP (fun S' u => ∃ K', S' = AC C ((h ++ [i], K') :: (h, K) :: Ls) ∧ Φ K' u) ho hi hw (fun w hS => ?_) ?_
  · have h1 := hv w hS.1 (hS.2 (h, K) (by simp) rfl)
    have hmono : ∀ u w', (C (h ++ [i]) w' ∧ ∃ K', K' w' ∧ Φ K' u) → ∃ S', SubH S' (AC C ((h, K) :: Ls)) ∧ S' (h ++ [i]) w' ∧ ∃ K', S' = AC C ((h ++ [i], K') :: (h, K) :: Ls) ∧ Φ K' u := by
      rintro u w' ⟨hC, K', hK', hΦ⟩
      refine ⟨AC C ((h ++ [i], K') :: (h, K) :: Ls), fun g w hs => ⟨hs.1, fun p hp => hs.2 p (List.mem_cons_of_mem _ hp)⟩, ⟨hC, fun p hp he => ?_⟩, K', rfl, hΦ⟩
      rcases List.mem_cons.1 hp with rfl | hp
      · exact hK'
      · exfalso
        have h2 := List.all_eq_true.1 hlen p.1 (List.mem_map_of_mem hp)
        rw [← he] at h2
        simp at h2
        omega
    generalize (execOp a.eval o).run P w = res at *
    cases res with
    | ok n' w' =>
      cases n' <;> simp only [XUpP] at h1 ⊢
      case value u => exact hmono _ _ h1
      case skip => exact hmono _ _ h1
      case enter f args => exact Calls.mono h1 fun e w'' hq => hq.imp (fun ⟨u, he, hd⟩ => ⟨u, he, hmono _ _ hd⟩) id
    | halt x w' => simp only [XUpP] at h1
  · rintro S' u _ ⟨K', rfl, hΦ⟩
    exact hn K' u hΦ
theorem k_one (Φ : (World → Prop) → Value → Prop) (ho : ops[i]? = some o) (hi : ks.contains i = true) (hw : Region.wanted o (yielded ops a.tmps) = true) (hlen : (((h, K) :: Ls).map (·.1)).all (fun g => decide (g.length ≤ h.length)) = true)
    (hv : ∀ w, C h w → K w → XUp P (fun u w' => C (h ++ [i]) w' ∧ ∃ K', K' w' ∧ Φ K' u) ((execOp a.eval o).run P w)) (hn : ∀ K' u, Φ K' u → wpT P Pn ops ks Q r (h ++ [i]) (AC C ((h ++ [i], K') :: (h, K) :: Ls)) (a.put o.dst u)) :
    gOh P Pn ops ks h (AC C ((h, K) :: Ls)) i (fun h' S' a' => wpT P Pn ops ks Q r h' S' a') a :=
  k_oneP Φ ho hi hw hlen (fun w hC hK => (hv w hC hK).toP) hn
theorem k_step (Φ : (World → Prop) → Value → Prop) (ho : ops[i]? = some o) (hi : ks.contains i = true) (hw : Region.wanted o (yielded ops a.tmps) = true) (hlen : (((h, K) :: Ls).map (·.1)).all (fun g => decide (g.length ≤ h.length)) = true)
    (hv : ∀ w, C h w → K w → XUp P (fun u w' => C (h ++ [i]) w' ∧ ∃ K', K' w' ∧ Φ K' u) ((execOp a.eval o).run P w)) (hn : ∀ K' u, Φ K' u → wpT P Pn ops ks Q r (h ++ [i]) (AC C ((h ++ [i], K') :: (h, K) :: Ls)) (a.put o.dst u)) :
    wpT P Pn ops ks Q (.op i r) h (AC C ((h, K) :: Ls)) a := k_one Φ ho hi hw hlen hv hn
theorem k_stepP (Φ : (World → Prop) → Value → Prop) (ho : ops[i]? = some o) (hi : ks.contains i = true) (hw : Region.wanted o (yielded ops a.tmps) = true) (hlen : (((h, K) :: Ls).map (·.1)).all (fun g => decide (g.length ≤ h.length)) = true)
    (hv : ∀ w, C h w → K w → XUpP P Pn (fun u w' => C (h ++ [i]) w' ∧ ∃ K', K' w' ∧ Φ K' u) ((execOp a.eval o).run P w)) (hn : ∀ K' u, Φ K' u → wpT P Pn ops ks Q r (h ++ [i]) (AC C ((h ++ [i], K') :: (h, K) :: Ls)) (a.put o.dst u)) :
    wpT P Pn ops ks Q (.op i r) h (AC C ((h, K) :: Ls)) a := k_oneP Φ ho hi hw hlen hv hn
/-- it yields v in every world of the class C -/
theorem k_val (v : Value) (ho : ops[i]? = some o) (hi : ks.contains i = false) (hw : Region.wanted o (yielded ops a.tmps) = true) (hv : ∀ g w, C g w → (execOp a.eval o).run P w = .ok (.value v) w) (hk : wpT P Pn ops ks Q r h (AC C Ls) (a.put o.dst v)) : wpT P Pn ops ks Q (.op i r) h (AC C Ls) a :=
  h_val v ho hi hw (fun g w hS => hv g w hS.1) hk
/-- it yields v in every world in which k has not come up; k waits for it -/
theorem k_bef (k : Nat) (v : Value) (ho : ops[i]? = some o) (hi : ks.contains i = false) (hk : ks.contains k = true) (ha : isAnc ops i k = true) (hw : Region.wanted o (yielded ops a.tmps) = true) (hv : ∀ g w, k ∉ g → C g w → (execOp a.eval o).run P w = .ok (.value v) w) (hn : wpT P Pn ops ks Q r h (AC C Ls) (a.put o.dst v)) : wpT P Pn ops ks Q (.op i r) h (AC C Ls) a := by
  refine ⟨o, ho, .inl ⟨v, ⟨hi, .inl ⟨hw, fun g l w hr hc => hv g w (fun hg => ?_) hc.2.1.1⟩⟩, hn⟩⟩
  have hm : k ∈ ks := by simpa using hk
  have h1 := isAnc_listed hc.1 ha ((hc.2.2 k hm).2 hg)
  rw [listed_not_ready hr hc.1.1] at h1
  cases h1
theorem k_skip (ho : ops[i]? = some o) (hi : ks.contains i = false) (hw : Region.wanted o (yielded ops a.tmps) = false) (hk : wpT P Pn ops ks Q r h (AC C Ls) (a.put o.dst undef)) : wpT P Pn ops ks Q (.op i r) h (AC C Ls) a := h_skip ho hi hw hk
/-- a region that draws its order: the class C for all its worlds, K of the first -/
theorem wp_region_k {id : Nat} {Q : Exit → Act → World → Prop} {a : Act} {w : World} {L : List Oper} (C : Clh) (K : World → Prop) (ks : List Nat) (r : Tr) (hm : P.follows .mixedOrders = true) (hB : Region.lexB .any L.toArray = true)
    (hlen : r.len = L.length) (hr : okH L.toArray ks r (Array.replicate L.length false) = true) (hC : C [] w.drew) (hK : K w.drew)
    (h : wpT P (fun _ _ => False) L.toArray ks (fun h' S' a' => ∀ w', S' h' w' → Q .normal a' w') r [] (AC C [([], K)]) a) : (Code.region id L.toArray true).wp P Q a w :=
  wp_region_tree (AC C [([], K)]) ks r hm hB hlen hr ⟨hC, fun p hp _ => by simp only [List.mem_singleton] at hp; subst hp; exact hK⟩ h
/-- a region that draws its order: the class C for all its worlds, K of the first -/
theorem wp_region_kP {id : Nat} {Q : Exit → Act → World → Prop} {a : Act} {w : World} {L : List Oper} (Pn : List PanicEntry → World → Prop) (hpn : ∀ c a' w', a'.defers = a.defers → Pn c w' → Q (.panic c) a' w') (C : Clh) (K : World → Prop) (ks : List Nat) (r : Tr) (hm : P.follows .mixedOrders = true) (hB : Region.lexB .any L.toArray = true)
    (hlen : r.len = L.length) (hr : okH L.toArray ks r (Array.replicate L.length false) = true) (hC : C [] w.drew) (hK : K w.drew)
    (h : wpT P Pn L.toArray ks (fun h' S' a' => ∀ w', S' h' w' → Q .normal a' w') r [] (AC C [([], K)]) a) : (Code.region id L.toArray true).wp P Q a w :=
  wp_region_treeP Pn hpn (AC C [([], K)]) ks r hm hB hlen hr ⟨hC, fun p hp _ => by simp only [List.mem_singleton] at hp; subst hp; exact hK⟩ h
theorem k_nil {Q' : Exit → Act → World → Prop} (hk : ∀ w', C h w' → K w' → Q' .normal a w') : wpT P Pn ops ks (fun h' S' a' => ∀ w', S' h' w' → Q' .normal a' w') .nil h (AC C ((h, K) :: Ls)) a :=
  fun w' hS => hk w' hS.1 (hS.2 (h, K) (by simp) rfl)
end
end Go.Proofs.YtllbphanfahkkaaGreatDoor.RG

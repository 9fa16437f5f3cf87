/-
  Rows of structs of the call's own: an element set, the end cut off, elements behind one that are cleared, a copy, an element appended: no condition beyond each theorem's own premises.
-/
import Derived.Lib.SliceRun
import Derived.Test.YtllbphanfahkkaaDoorSb
namespace Go.Proofs.YtllbphanfahkkaaDoor
open Go.RowKit
section
variable {α : Type} {k : Nat} {enc : α → List Value}
theorem rowCells_at (hk : ∀ x, (enc x).length = k) (h0 : 0 < k) : ∀ (l : List α) (m : Nat), (rowCells enc l)[m]? = (l[m / k]?).bind fun x => (enc x)[m % k]?
  | [], m => by simp [rowCells]
  | y :: l, m => by
    have ih := rowCells_at hk h0 l
    unfold rowCells at ih ⊢
    rw [List.flatMap_cons]
    by_cases h : m < k
    · rw [List.getElem?_append_left (by rw [hk]; exact h), Nat.div_eq_of_lt h, Nat.mod_eq_of_lt h]
      rfl
    · rw [List.getElem?_append_right (by rw [hk]; omega), hk, ih (m - k)]
      have h1 : m / k = (m - k) / k + 1 := by
        rw [← Nat.add_div_right _ h0]
        congr 1
        omega
      have h2 : m % k = (m - k) % k := by
        rw [Nat.mod_eq_sub_mod (by omega)]
      rw [h1, h2, List.getElem?_cons_succ]
/-- cells put into an array -/
def splice : Array Value → Nat → List Value → Array Value
  | c, _, [] => c
  | c, o, v :: vs => splice (c.setIfInBounds o v) (o + 1) vs
theorem splice_size : ∀ (vs : List Value) (c : Array Value) (o : Nat), (splice c o vs).size = c.size
  | [], _, _ => rfl
  | v :: vs, c, o => by rw [splice, splice_size vs]; simp
theorem splice_out : ∀ (vs : List Value) (c : Array Value) (o j : Nat), j < o ∨ o + vs.length ≤ j → (splice c o vs)[j]? = c[j]?
  | [], _, _, _, _ => rfl
  | v :: vs, c, o, j, h => by
    rw [List.length_cons] at h
    rw [splice, splice_out vs _ _ _ (by omega), Array.getElem?_setIfInBounds, if_neg (by omega)]
theorem splice_in : ∀ (vs : List Value) (c : Array Value) (o i : Nat), o + vs.length ≤ c.size → i < vs.length → (splice c o vs)[o + i]? = vs[i]?
  | [], _, _, _, _, h => by simp at h
  | v :: vs, c, o, 0, h, _ => by
    rw [List.length_cons] at h
    rw [splice, splice_out vs _ _ _ (by omega), Array.getElem?_setIfInBounds]
    simp
    omega
  | v :: vs, c, o, i + 1, h, hi => by
    rw [List.length_cons] at h hi
    rw [splice, show o + (i + 1) = o + 1 + i by omega, splice_in vs _ (o + 1) i (by simp; omega) (by omega)]
    simp
theorem setCells_heap : ∀ (vs : List Value) (W : World) (g o : Nat) (c : Array Value) (t : TypeId) (fr : Nat × Nat), W.heap[g]? = some (.cells c t fr) → (W.setCells g o vs).heap[g]? = some (.cells (splice c o vs) t fr)
  | [], _, _, _, _, _, _, h => h
  | v :: vs, W, g, o, c, t, fr, h => by
    rw [World.setCells]
    refine setCells_heap vs _ g (o + 1) (c.setIfInBounds o v) t fr ?_
    obtain ⟨hlt, hget⟩ := Array.getElem?_eq_some_iff.1 h
    show (W.heap.modify g _)[g]? = _
    rw [Array.getElem?_modify, if_pos rfl, h]
    rfl
theorem setCells_grown : ∀ (vs : List Value) (W : World) (g o : Nat), W.grownBy (W.setCells g o vs) (some g)
  | [], W, g, o => ⟨rfl, rfl, rfl, Nat.le_refl _, fun _ _ _ => rfl⟩
  | v :: vs, W, g, o => by
    have h4 : W.grownBy (W.setCell ⟨g, o, none⟩ v) (some g) := ⟨rfl, rfl, rfl, by simp [World.setCell], fun k _ hk => Below.heap_setCell _ _ _ _ (by intro e'; exact hk (by rw [e']))⟩
    exact World.grownBy.trans h4 (setCells_grown vs _ g (o + 1))
variable {W : World} {B : Nat} {e : TypeId} {g cap n : Nat} {l : List α}
/-- a whole row of the call's own -/
theorem own_row {v : Value} {xs : List Value} (h : W.ownsRow B e k v n xs) (hv : v = .slice (some ⟨g, 0, none⟩) n cap) : ∃ cur, B ≤ g ∧ g < W.heap.size ∧ W.heap[g]? = some (.cells cur e (0, 0)) ∧ n ≤ cap ∧ cap ≤ maxLen ∧ cur.size = cap * k ∧ cur.toList.take (n * k) = xs := by
  obtain ⟨_, h2⟩ := h
  subst hv
  rcases h2 with ⟨hv, _⟩ | ⟨g', cap', cur, hv, hB, hg, h3, h4, h5, h6⟩
  · cases hv
  · cases hv
    exact ⟨cur, hB, (Array.getElem?_eq_some_iff.1 hg).1, hg, h3, h4, h5, h6⟩
theorem own_there (h : W.ownsRow B e k (.slice (some ⟨g, 0, none⟩) n cap) n (rowCells enc l)) (o m : Nat) (ho : o + m ≤ n * k) : W.there g o m := by
  obtain ⟨cur, _, _, hg, hn, _, hs, _⟩ := own_row h rfl
  have h1 : n * k ≤ cap * k := Nat.mul_le_mul_right _ hn
  intro j hj
  refine ⟨?_, by simp [World.frozen?, hg]⟩
  rw [cellAt hg, Array.getElem?_eq_getElem (by omega)]
  rfl
/-- an element is set -/
theorem own_set (hk : ∀ x, (enc x).length = k) (h0 : 0 < k) (h : W.ownsRow B e k (.slice (some ⟨g, 0, none⟩) l.length cap) l.length (rowCells enc l)) (i : Nat) (hi : i < l.length) (x : α) :
    (W.setCells g (i * k) (enc x)).ownsRow B e k (.slice (some ⟨g, 0, none⟩) l.length cap) l.length (rowCells enc (l.set i x)) := by
  obtain ⟨cur, hB, _, hg, hn, hm, hs, ht⟩ := own_row h rfl
  have h1 : l.length * k ≤ cap * k := Nat.mul_le_mul_right _ hn
  have h2 : (i + 1) * k ≤ l.length * k := Nat.mul_le_mul_right _ hi
  have h3 : (i + 1) * k = i * k + k := Nat.succ_mul _ _
  refine ⟨by rw [rowCells_len hk, List.length_set], .inr ⟨g, cap, splice cur (i * k) (enc x), rfl, hB, setCells_heap _ _ _ _ _ _ _ hg, hn, hm, by rw [splice_size]; exact hs, ?_⟩⟩
  apply List.ext_getElem?
  intro m
  rw [List.getElem?_take, rowCells_at hk h0]
  have hm0 := congrArg (·[m]?) ht
  simp only [List.getElem?_take, rowCells_at hk h0] at hm0
  split
  · rename_i hlt
    rw [if_pos hlt] at hm0
    rw [Array.getElem?_toList]
    have hd := Nat.div_add_mod m k
    have hr := Nat.mod_lt m h0
    by_cases hin : m / k = i
    · have hmi : m = i * k + m % k := by rw [← hin, Nat.mul_comm]; exact hd.symm
      have : (splice cur (i * k) (enc x))[i * k + m % k]? = (enc x)[m % k]? := splice_in _ _ _ _ (by rw [hk]; omega) (by rw [hk]; exact hr)
      rw [← hmi] at this
      rw [this, hin, List.getElem?_set_self (by omega)]
      rfl
    · rw [splice_out, ← Array.getElem?_toList, hm0, List.getElem?_set_ne (by omega)]
      rw [hk]
      rcases Nat.lt_or_ge (m / k) i with hl | hl
      · left
        have : (m / k + 1) * k ≤ i * k := Nat.mul_le_mul_right _ hl
        rw [Nat.succ_mul] at this
        rw [Nat.mul_comm] at hd
        omega
      · right
        have : (i + 1) * k ≤ m / k * k := Nat.mul_le_mul_right _ (by omega)
        rw [Nat.mul_comm] at hd
        omega
  · rename_i hlt
    have hd : l.length ≤ m / k := (Nat.le_div_iff_mul_le h0).2 (by omega)
    rw [List.getElem?_eq_none (by rw [List.length_set]; exact hd)]
    rfl
/-- one cell of an element is set -/
theorem own_cell (hk : ∀ x, (enc x).length = k) (h0 : 0 < k) (h : W.ownsRow B e k (.slice (some ⟨g, 0, none⟩) l.length cap) l.length (rowCells enc l)) (i j : Nat) (y x : α) (u : Value) (hy : l[i]? = some y) (hj : j < k) (hx : enc x = (enc y).set j u) :
    (W.setCell ⟨g, i * k + j, none⟩ u).ownsRow B e k (.slice (some ⟨g, 0, none⟩) l.length cap) l.length (rowCells enc (l.set i x)) := by
  have hi : i < l.length := (List.getElem?_eq_some_iff.1 hy).1
  obtain ⟨cur, hB, _, hg, hn, hm, hs, ht⟩ := own_row h rfl
  have h1 : l.length * k ≤ cap * k := Nat.mul_le_mul_right _ hn
  have h2 : (i + 1) * k ≤ l.length * k := Nat.mul_le_mul_right _ hi
  have h3 : (i + 1) * k = i * k + k := Nat.succ_mul _ _
  refine ⟨by rw [rowCells_len hk, List.length_set], .inr ⟨g, cap, splice cur (i * k + j) [u], rfl, hB, setCells_heap [u] _ _ _ _ _ _ hg, hn, hm, by rw [splice_size]; exact hs, ?_⟩⟩
  apply List.ext_getElem?
  intro m
  rw [List.getElem?_take, rowCells_at hk h0]
  have hm0 := congrArg (·[m]?) ht
  simp only [List.getElem?_take, rowCells_at hk h0] at hm0
  split
  · rename_i hlt
    rw [if_pos hlt] at hm0
    rw [Array.getElem?_toList]
    have hd := Nat.div_add_mod m k
    have hr := Nat.mod_lt m h0
    rw [Nat.mul_comm] at hd
    by_cases hin : m / k = i
    · rw [hin, List.getElem?_set_self hi]
      rw [hin] at hm0
      rw [hy] at hm0
      show _ = (enc x)[m % k]?
      rw [hx]
      by_cases hmj : m % k = j
      · have hmi : m = i * k + j + 0 := by rw [← hin, ← hmj]; omega
        have : (splice cur (i * k + j) [u])[i * k + j + 0]? = [u][0]? := splice_in _ _ _ _ (by show i * k + j + 1 ≤ cur.size; omega) (by simp)
        rw [← hmi] at this
        rw [this, hmj, List.getElem?_set_self (by rw [hk]; exact hj)]
        rfl
      · rw [splice_out, ← Array.getElem?_toList, hm0, List.getElem?_set_ne (Ne.symm hmj)]
        · rfl
        · rw [hin] at hd
          show m < i * k + j ∨ i * k + j + 1 ≤ m
          omega
    · rw [splice_out, ← Array.getElem?_toList, hm0, List.getElem?_set_ne (by omega)]
      show m < i * k + j ∨ i * k + j + 1 ≤ m
      rcases Nat.lt_or_ge (m / k) i with hl | hl
      · left
        have : (m / k + 1) * k ≤ i * k := Nat.mul_le_mul_right _ hl
        rw [Nat.succ_mul] at this
        omega
      · right
        have : (i + 1) * k ≤ m / k * k := Nat.mul_le_mul_right _ (by omega)
        omega
  · rename_i hlt
    have hd : l.length ≤ m / k := (Nat.le_div_iff_mul_le h0).2 (by omega)
    rw [List.getElem?_eq_none (by rw [List.length_set]; exact hd)]
    rfl
/-- the end is cut off -/
theorem own_cut (hk : ∀ x, (enc x).length = k) (h : W.ownsRow B e k (.slice (some ⟨g, 0, none⟩) l.length cap) l.length (rowCells enc l)) (i : Nat) (hi : i ≤ l.length) :
    W.ownsRow B e k (.slice (some ⟨g, 0, none⟩) i cap) i (rowCells enc (l.take i)) := by
  obtain ⟨cur, hB, _, hg, hn, hm, hs, ht⟩ := own_row h rfl
  refine ⟨by rw [rowCells_len hk, List.length_take, Nat.min_eq_left hi], .inr ⟨g, cap, cur, rfl, hB, hg, by omega, hm, hs, ?_⟩⟩
  have h2 : i * k ≤ l.length * k := Nat.mul_le_mul_right _ hi
  have h3 : (rowCells enc l).take (i * k) = rowCells enc (l.take i) := by
    conv => lhs; rw [← List.take_append_drop i l, rowCells_append]
    exact List.take_left' (by rw [rowCells_len hk, List.length_take, Nat.min_eq_left hi])
  rw [← h3, ← ht, List.take_take, Nat.min_eq_left h2]
/-- cells behind a row's first elements are turned: the first elements stay -/
theorem own_tail (h : W.ownsRow B e k (.slice (some ⟨g, 0, none⟩) n cap) n (rowCells enc l)) (o : Nat) (ho : n * k ≤ o) (vs : List Value) :
    (W.setCells g o vs).ownsRow B e k (.slice (some ⟨g, 0, none⟩) n cap) n (rowCells enc l) := by
  have hl := h.1
  obtain ⟨cur, hB, _, hg, hn, hm, hs, ht⟩ := own_row h rfl
  refine ⟨hl, .inr ⟨g, cap, splice cur o vs, rfl, hB, setCells_heap _ _ _ _ _ _ _ hg, hn, hm, by rw [splice_size]; exact hs, ?_⟩⟩
  rw [← ht]
  apply List.ext_getElem?
  intro m
  rw [List.getElem?_take, List.getElem?_take]
  split
  · rw [Array.getElem?_toList, Array.getElem?_toList, splice_out _ _ _ _ (by omega)]
  · rfl
end
theorem setRow_else (W : World) (r : Nat) (cs : Array Value) (g : Nat) (h : g ≠ r) : (W.setRow r cs).heap[g]? = W.heap[g]? := by
  simp only [World.setRow, Array.getElem?_modify]
  rw [if_neg (Ne.symm h)]
theorem own_base {W : World} {B B' : Nat} {e : TypeId} {k n : Nat} {v : Value} {xs : List Value} (h : W.ownsRow B e k v n xs) (hb : B' ≤ B) : W.ownsRow B' e k v n xs := by
  refine ⟨h.1, h.2.imp id ?_⟩
  rintro ⟨g, cap, cur, h1, h2, h3⟩
  exact ⟨g, cap, cur, h1, Nat.le_trans hb h2, h3⟩
/-- a row below is written -/
theorem own_setRow {W : World} {B : Nat} {e : TypeId} {k n : Nat} {v : Value} {xs : List Value} (h : W.ownsRow B e k v n xs) (r : Nat) (hr : r < B) (cs : Array Value) : (W.setRow r cs).ownsRow B e k v n xs := by
  refine ⟨h.1, h.2.imp id ?_⟩
  rintro ⟨g, cap, cur, h1, h2, h3, h4⟩
  exact ⟨g, cap, cur, h1, h2, (setRow_else _ _ _ _ (by omega)).trans h3, h4⟩
/-- 'clear(s)', s a slice of n > 0 elements of k cells -/
theorem run_clear_rows {P : Program} (w : World) (t e : TypeId) (z : Value) (ht : P.underlying t = some (.slice e)) (hv : ∀ w, (zeroValue e).run P w = .ok z w) (h1 : ∀ u ∈ z.cells.toList, u.oneCell' = true) (b o n c : Nat) (hn : 0 < n)
    (hth : w.there b o (n * z.cells.size)) : ∃ vs, vs.length = n * z.cells.size ∧ ∀ ty, (Builtin.clear_ #[t] ty #[.slice (some ⟨b, o, none⟩) n c]).run P w = .ok (.tuple #[]) (w.setCells b o vs) := by
  refine ⟨(Builtin.zeroCells z.cells n).toList, by simp [Builtin.zeroCells], fun ty => ?_⟩
  have hone : ∀ v ∈ (Builtin.zeroCells z.cells n).toList, v.oneCell' = true := by
    intro v hv'
    simp only [Builtin.zeroCells, Array.toList_map, List.mem_map, Array.toList_range, List.mem_range] at hv'
    obtain ⟨i, hi, rfl⟩ := hv'
    have hs : 0 < z.cells.size := by
      rcases Nat.eq_zero_or_pos z.cells.size with h | h
      · rw [h, Nat.mul_zero] at hi; omega
      · exact h
    have hm := Nat.mod_lt i hs
    rw [getElem!_pos z.cells (i % z.cells.size) hm]
    exact h1 _ (Array.mem_toList_iff.2 (Array.getElem_mem hm))
  have hlen : (Builtin.zeroCells z.cells n).toList.length = n * z.cells.size := by simp [Builtin.zeroCells]
  have hst := run_storeCells_cells (P := P) b o (Builtin.zeroCells z.cells n).toList 0 w (fun j hj => by rw [Nat.add_zero]; exact (hth j (by omega)).1) (fun j hj => by rw [Nat.add_zero]; exact (hth j (by omega)).2) hone
  simp only [Nat.add_zero] at hst
  obtain ⟨m, rfl⟩ : ∃ m, n = m + 1 := ⟨n - 1, by omega⟩
  simp [Builtin.clear_, run_underlying ht, hv, hst]
end Go.Proofs.YtllbphanfahkkaaDoor

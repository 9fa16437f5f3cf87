/-
  Package factset: Missing: the strings that a set does not have, ascending, each once; only new memory is written.
-/
import Derived.Test.YtllbphanfahkkaaGreatDoorFs5
import Derived.Test.YtllbphanfahkkaaGreatDoorMis1
namespace Go.Proofs.YtllbphanfahkkaaGreatDoor
open Go.RowKit Go.Shelf Go.Lib Go.Sort RG
namespace RW
abbrev dl (l : List ByteArray) : List (List UInt8) := l.map fun x => x.data.toList
def toB (x : List UInt8) : ByteArray := ⟨x.toArray⟩
theorem toB_dl (l : List ByteArray) : (dl l).map toB = l := by
  rw [List.map_map]
  conv => rhs; rw [← List.map_id l]
  apply List.map_congr_left
  intro x _
  show (⟨x.data.toList.toArray⟩ : ByteArray) = x
  simp
theorem blt_toB (x y : List UInt8) : blt (toB x) (toB y) = Op.bytesLess x y := by unfold blt toB; simp
theorem bcompact (l : List (List UInt8)) (hl : l.Pairwise fun x y => Op.bytesLess y x = false) : ∀ m, m ≤ l.length → (Lib.compactUpTo l.toArray m).Pairwise (fun x y => Op.bytesLess x y = true) ∧ (∀ x ∈ Lib.compactUpTo l.toArray m, ∃ j, ∃ h : j < l.length, j < m ∧ x = l[j]) ∧ (∀ j, ∀ h : j < l.length, j < m → l[j] ∈ Lib.compactUpTo l.toArray m)
  | 0, _ => ⟨List.Pairwise.nil, fun x hx => by simp [Lib.compactUpTo] at hx, fun j _ h => absurd h (by omega)⟩
  | m + 1, hm => by
    obtain ⟨h1, h2, h3⟩ := bcompact l hl m (by omega)
    have hml : m < l.length := by omega
    have hle : ∀ i j, ∀ hi : i < l.length, ∀ hj : j < l.length, i ≤ j → Op.bytesLess l[j] l[i] = false := fun i j hi hj hij => by
      rcases Nat.lt_or_eq_of_le hij with h | h
      · exact List.pairwise_iff_getElem.1 hl i j hi hj h
      · subst h; exact bl_irrefl _
    have hg : ∀ j, ∀ h : j < l.length, l.toArray[j]! = l[j] := fun j h => by
      rw [getElem!_pos l.toArray j (by simpa using h)]
      simp
    rw [Lib.compactUpTo_succ]
    cases hk : Lib.keeps l.toArray m
    · have hne : ¬ (m = 0 ∨ l.toArray[m]! ≠ l.toArray[m - 1]!) := by
        have := hk
        unfold Lib.keeps at this
        exact of_decide_eq_false this
      have hm0 : m ≠ 0 := fun h => hne (.inl h)
      have heq : l[m] = l[m - 1] := by
        have := Decidable.not_not.1 fun h => hne (.inr h)
        rw [hg m hml, hg (m - 1) (by omega)] at this
        exact this
      rw [if_neg Bool.false_ne_true, List.append_nil]
      refine ⟨h1, fun x hx => ?_, fun j h hj => ?_⟩
      · obtain ⟨j, hj, hjm, e⟩ := h2 x hx
        exact ⟨j, hj, by omega, e⟩
      · rcases Nat.lt_or_eq_of_le (Nat.le_of_lt_succ hj) with h' | h'
        · exact h3 j h h'
        · subst h'
          rw [heq]
          exact h3 (j - 1) (by omega) (by omega)
    · have hkk : m = 0 ∨ l.toArray[m]! ≠ l.toArray[m - 1]! := by
        have := hk
        unfold Lib.keeps at this
        exact of_decide_eq_true this
      rw [if_pos rfl, hg m hml]
      refine ⟨?_, fun x hx => ?_, fun j h hj => ?_⟩
      · rw [List.pairwise_append]
        refine ⟨h1, List.pairwise_singleton _ _, fun x hx y hy => ?_⟩
        rw [List.mem_singleton] at hy
        subst hy
        obtain ⟨j, hj, hjm, e⟩ := h2 x hx
        subst e
        have h4 := hkk.resolve_left (by omega)
        rw [hg m hml, hg (m - 1) (by omega)] at h4
        have h5 := hle j (m - 1) hj (by omega) (by omega)
        have h6 := hle (m - 1) m (by omega) hml (by omega)
        have h7 : Op.bytesLess l[m - 1] l[m] = true := by
          cases e : Op.bytesLess l[m - 1] l[m] with
          | true => rfl
          | false => exact absurd (bl_total _ _ h6 e) h4
        cases e : Op.bytesLess l[j] l[m - 1] with
        | true => exact bl_trans _ _ _ e h7
        | false => rw [bl_total _ _ e h5]; exact h7
      · rcases List.mem_append.1 hx with hx | hx
        · obtain ⟨j, hj, hjm, e⟩ := h2 x hx
          exact ⟨j, hj, by omega, e⟩
        · rw [List.mem_singleton] at hx
          exact ⟨m, hml, by omega, hx⟩
      · rcases Nat.lt_or_eq_of_le (Nat.le_of_lt_succ hj) with h' | h'
        · exact List.mem_append_left _ (h3 j h h')
        · subst h'
          exact List.mem_append_right _ (List.mem_singleton.2 rfl)
/-- the strings that occur, ascending, each once -/
def uqB (l : List ByteArray) : List ByteArray := (Lib.compact ((dl l).mergeSort fun x y => decide (x ≤ y))).map toB
theorem srt_le (ss : List (List UInt8)) : (ss.mergeSort fun x y => decide (x ≤ y)).Pairwise fun x y => Op.bytesLess y x = false := by
  have h1 := List.pairwise_mergeSort (le := fun x y : List UInt8 => decide (x ≤ y)) (by
    intro a b c h1 h2
    rw [le_bl, Bool.not_eq_true'] at h1 h2 ⊢
    cases e : Op.bytesLess c a with
    | false => rfl
    | true =>
      cases e2 : Op.bytesLess b c with
      | true => rw [bl_trans _ _ _ e2 e] at h1; cases h1
      | false => rw [bl_total _ _ e2 h2] at h1; rw [h1] at e; cases e) (by
    intro a b
    rw [le_bl, le_bl]
    cases e : Op.bytesLess b a with
    | false => rfl
    | true => rw [bl_asymm e]; rfl) ss
  exact h1.imp fun h => by rw [le_bl, Bool.not_eq_true'] at h; exact h
theorem uqB_asc (l : List ByteArray) : AscB (uqB l) := by
  have h := (bcompact _ (srt_le (dl l)) _ (Nat.le_refl _)).1
  unfold AscB uqB
  rw [List.pairwise_map]
  exact h.imp fun h => by rw [blt_toB]; exact h
theorem mem_uqB {l : List ByteArray} {x : ByteArray} : x ∈ uqB l ↔ x ∈ l := by
  have h := (bcompact _ (srt_le (dl l)) _ (Nat.le_refl _)).2
  have hp := List.mergeSort_perm (dl l) fun x y : List UInt8 => decide (x ≤ y)
  obtain ⟨s, hs⟩ : ∃ s, s = (dl l).mergeSort fun x y : List UInt8 => decide (x ≤ y) := ⟨_, rfl⟩
  have e : uqB l = (Lib.compactUpTo s.toArray s.length).map toB := by unfold uqB; rw [← hs]; rfl
  rw [← hs] at h hp
  have h2 : ∀ y, y ∈ Lib.compactUpTo s.toArray s.length ↔ y ∈ dl l := fun y => by
    rw [← hp.mem_iff]
    constructor
    · intro hy
      obtain ⟨j, hj, _, rfl⟩ := h.1 y hy
      exact List.getElem_mem hj
    · intro hy
      obtain ⟨j, hj, rfl⟩ := List.getElem_of_mem hy
      exact h.2 j hj hj
  rw [e]
  constructor
  · intro hx
    obtain ⟨y, hy, rfl⟩ := List.mem_map.1 hx
    have := List.mem_map_of_mem (f := toB) ((h2 y).1 hy)
    rwa [toB_dl] at this
  · intro hx
    have hm : x ∈ (dl l).map toB := by rw [toB_dl]; exact hx
    obtain ⟨y, hy, rfl⟩ := List.mem_map.1 hm
    exact List.mem_map_of_mem ((h2 y).2 hy)
/-- what Missing returns -/
def missB (p : ByteArray → Bool) (l : List ByteArray) : List ByteArray := uqB (misL p l)
theorem mem_missB {p : ByteArray → Bool} {l : List ByteArray} {x : ByteArray} : x ∈ missB p l ↔ x ∈ l ∧ p x = false := by
  unfold missB misL
  rw [mem_uqB, List.mem_filter]
  simp
theorem uqB_len (l : List ByteArray) : (uqB l).length ≤ l.length := nodup_len _ _ (AscB.nodup (uqB_asc l)) fun x hx => mem_uqB.1 hx
theorem missB_len (p : ByteArray → Bool) (l : List ByteArray) : (missB p l).length ≤ l.length := Nat.le_trans (uqB_len _) (List.length_filter_le _ _)
end RW
theorem encS (x : ByteArray) : encStr x.data.toList = .string x := by show Value.string ⟨x.data.toList.toArray⟩ = _; simp
theorem encT (x : List UInt8) : encStr x = .string (RW.toB x) := rfl
abbrev RowE (W : World) (B : Nat) (v : Value) (ss : List (List UInt8)) : Prop := W.ownsRow B 9 1 v ss.length (ss.map encStr)
theorem rowE_of {W : World} {B : Nat} {v : Value} {l : List ByteArray} (h : StrsOwn W B v l) : RowE W B v (RW.dl l) := by
  rw [RowE, List.length_map, List.map_map, show (encStr ∘ fun x : ByteArray => x.data.toList) = Value.string from funext encS]
  exact h
theorem rowE_to {W : World} {B : Nat} {v : Value} {ss : List (List UInt8)} (h : RowE W B v ss) : StrsOwn W B v (ss.map RW.toB) := by
  rw [StrsOwn, List.length_map, List.map_map, show (Value.string ∘ RW.toB) = encStr from rfl]
  exact h
abbrev encE : List UInt8 → List Value := fun z => [encStr z]
theorem cellsE : ∀ l : List (List UInt8), rowCells encE l = l.map encStr
  | [] => rfl
  | x :: l => by
    have := cellsE l
    unfold rowCells at this ⊢
    rw [List.flatMap_cons, this]
    rfl
/-- a row's cells laid anew, then cut -/
theorem relaidE {W : World} {B g cap q k : Nat} {os : Array Obj} {l ts : List (List UInt8)} (h : RowE W B (.slice (some ⟨g, 0, none⟩) l.length cap) l) (ht : ts.length = l.length) (hk : k ≤ ts.length) :
    RowE (Sort.grow (putRow encStr (Sort.ahead W q) g 0 ts.toArray) os) B (.slice (some ⟨g, 0, none⟩) (ts.take k).length cap) (ts.take k) ∧ ChgS (fun j => j = g) W (Sort.grow (putRow encStr (Sort.ahead W q) g 0 ts.toArray) os) := by
  obtain ⟨cur, hBg, _, hg, hn, hm, hs, _⟩ := own_row h rfl
  have hown := ownsRow_sorted (n := q) (os := os) (ss := l) (ts := ts) ht hBg hg hn hm hs
  have hgr := grownBy_sorted (w := W) (g := g) (n := q) (os := os) ts.toArray
  refine ⟨?_, ⟨hgr.os, hgr.tape, hgr.output, hgr.size, fun j hj hne => hgr.block j hj fun e => hne (Option.some.inj e)⟩⟩
  rw [← ht, ← cellsE] at hown
  have hcut := own_cut (enc := encE) (fun _ => rfl) hown k hk
  rw [cellsE] at hcut
  have hl : (ts.take k).length = k := by rw [List.length_take]; omega
  rw [RowE, hl]
  exact hcut
theorem compactE_len (l : List (List UInt8)) : (Lib.compact l).length ≤ l.length := by
  unfold Lib.compact Lib.compactUpTo
  rw [List.length_map]
  exact Nat.le_trans (List.length_filter_le _ _) (by simp)
theorem sortE {W : World} {B : Nat} {v : Value} {l : List (List UInt8)} (h : RowE W B v l) (hl : l.length ≤ 1000000) :
    Calls Tryz.prog 192 #[v] W fun e w' => (∃ u, e = .returned u) ∧ RowE w' B v (l.mergeSort fun x y => decide (x ≤ y)) ∧ ChgS (fun j => v.ownBlock = some j) W w' := by
  rcases h.2 with ⟨rfl, h0⟩ | ⟨g, cap, cur, rfl, hBg, hg, hn, hm, hs, ht⟩
  · obtain rfl : l = [] := List.eq_nil_of_length_eq_zero h0
    refine (AnyM.slices_Sort_string_none SH.laysSortS none 0 W).mono ?_
    rintro e w' ⟨rfl, rfl⟩
    exact ⟨⟨_, rfl⟩, by rw [List.mergeSort_nil]; exact h, ChgS.refl _ _⟩
  · have hH : Holds encStr W g 0 l.toArray := holds_of_block hg (by simpa using ht)
    refine (AnyM.slices_Sort_string SH.laysSortS g 0 cap l W hH (Array.getElem?_eq_some_iff.1 hg).1 (by omega)).mono ?_
    rintro e w' ⟨rfl, nn, os, rfl⟩
    have hown := ownsRow_sorted (n := nn) (os := os) (ss := l) (ts := l.mergeSort fun x y => decide (x ≤ y)) (by simp) hBg hg hn hm hs
    have hgr := grownBy_sorted (w := W) (g := g) (n := nn) (os := os) (l.mergeSort fun x y => decide (x ≤ y)).toArray
    refine ⟨⟨_, rfl⟩, ?_, ⟨hgr.os, hgr.tape, hgr.output, hgr.size, fun j hj hne => hgr.block j hj fun e => hne e.symm⟩⟩
    rw [RowE, List.length_mergeSort]
    exact hown
end Go.Proofs.YtllbphanfahkkaaGreatDoor

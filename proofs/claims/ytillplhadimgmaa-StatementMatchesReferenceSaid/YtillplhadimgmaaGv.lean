/-
  Frames; rows of ints of the call's own; slices.Sort, slices.Compact at them: what they return, what they change; ascending lists.
-/
import Derived.Test.YtillplhadimgmaaSb3
import Derived.Test.YtillplhadimgmaaStg3
import Derived.Lib.SlKeysI
import Derived.Test.YtillplhadimgmaaSortG
import Derived.Test.YtillplhadimgmaaCmpG
namespace Go.Proofs.Ytillplhadimgmaa
open Go.RowKit Go.Shelf Go.Lib Go.Sort
/-- some blocks may change, new ones may come -/
structure ChgS (Q : Nat → Prop) (W W' : World) : Prop where
  os : W'.os = W.os
  tape : W'.tape = W.tape
  output : W'.output = W.output
  size : W.heap.size ≤ W'.heap.size
  block : ∀ k, k < W.heap.size → ¬ Q k → W'.heap[k]? = W.heap[k]?
theorem ChgS.refl (Q : Nat → Prop) (W : World) : ChgS Q W W := ⟨rfl, rfl, rfl, Nat.le_refl _, fun _ _ _ => rfl⟩
theorem ChgS.trans {Q : Nat → Prop} {W W' W'' : World} (h : ChgS Q W W') (g : ChgS Q W' W'') : ChgS Q W W'' :=
  ⟨g.os.trans h.os, g.tape.trans h.tape, g.output.trans h.output, Nat.le_trans h.size g.size, fun k hk h1 => (g.block k (Nat.lt_of_lt_of_le hk h.size) h1).trans (h.block k hk h1)⟩
/-- .. blocks that were not there may change as well -/
theorem ChgS.transN {Q Q' : Nat → Prop} {W W' W'' : World} (h : ChgS Q W W') (g : ChgS Q' W' W'') (hq : ∀ k, k < W.heap.size → Q' k → Q k) : ChgS Q W W'' :=
  ⟨g.os.trans h.os, g.tape.trans h.tape, g.output.trans h.output, Nat.le_trans h.size g.size, fun k hk h1 => (g.block k (Nat.lt_of_lt_of_le hk h.size) fun e => h1 (hq k hk e)).trans (h.block k hk h1)⟩
theorem ChgS.imp {Q Q' : Nat → Prop} {W W' : World} (h : ChgS Q W W') (hq : ∀ k, Q k → Q' k) : ChgS Q' W W' := ⟨h.os, h.tape, h.output, h.size, fun k hk hn => h.block k hk fun e => hn (hq k e)⟩
theorem ChgS.set {Q : Nat → Prop} {b i : Nat} {W W' : World} (h : ChgS Q W W') (hb : Q b) (v : Value) : ChgS Q W (W'.setCell ⟨b, i, none⟩ v) :=
  h.trans ⟨rfl, rfl, rfl, by simp, fun k _ hk => Below.heap_setCell _ _ _ _ (fun e => hk (e ▸ hb))⟩
theorem ChgS.grown {Q : Nat → Prop} {W W' W'' : World} {g : Option Nat} (h : ChgS Q W W') (hg : W'.grownBy W'' g) (hq : ∀ k, g = some k → Q k) : ChgS Q W W'' :=
  h.trans ⟨hg.os, hg.tape, hg.output, hg.size, fun k hk hn => hg.block k hk fun e => hn (hq k e.symm)⟩
theorem ChgS.of_below {Q : Nat → Prop} {W W' : World} (h : Below W.heap.size W W') : ChgS Q W W' := ⟨h.os, h.tape, h.output, h.size, fun k hk _ => h.block k hk⟩
theorem ChgS.below {Q : Nat → Prop} {W W' : World} {B : Nat} (h : ChgS Q W W') (hq : ∀ k, Q k → B ≤ k) (hB : B ≤ W.heap.size) : Below B W W' := ⟨h.os, h.tape, h.output, h.size, fun k hk => h.block k (Nat.lt_of_lt_of_le hk hB) fun e => Nat.lt_irrefl _ (Nat.lt_of_lt_of_le hk (hq k e))⟩
theorem blocks_ne {W : World} {i j : Nat} {c c' : Array Value} {t t' : TypeId} {f f' : Nat × Nat} (h1 : W.heap[i]? = some (.cells c t f)) (h2 : W.heap[j]? = some (.cells c' t' f')) (hne : t ≠ t') : i ≠ j := by
  rintro rfl
  rw [h1] at h2
  injection h2 with h2
  injection h2 with _ h2
  exact hne h2
theorem own_keep {W W' : World} {B : Nat} {e : TypeId} {k n : Nat} {v : Value} {xs : List Value} (h : W.ownsRow B e k v n xs) (hk : ∀ g, v.ownBlock = some g → W'.heap[g]? = W.heap[g]?) : W'.ownsRow B e k v n xs := by
  refine ⟨h.1, h.2.imp id ?_⟩
  rintro ⟨g, cap, cur, rfl, h2, h3, h4⟩
  exact ⟨g, cap, cur, rfl, h2, (hk g rfl).trans h3, h4⟩
theorem own_block {W : World} {B : Nat} {e : TypeId} {k n : Nat} {v : Value} {xs : List Value} (h : W.ownsRow B e k v n xs) {g : Nat} (hg : v.ownBlock = some g) : B ≤ g ∧ g < W.heap.size ∧ ∃ cur, W.heap[g]? = some (.cells cur e (0, 0)) := by
  rcases h.2 with ⟨rfl, _⟩ | ⟨g', cap, cur, rfl, h2, h3, _⟩
  · cases hg
  · cases hg
    exact ⟨h2, (Array.getElem?_eq_some_iff.1 h3).1, cur, h3⟩
/-- a row of ints of the call's own -/
abbrev IntsO (W : World) (B : Nat) (v : Value) (l : List Int) : Prop := W.ownsRow B 3 1 v l.length (l.map encZ)
abbrev encI : Int → List Value := fun z => [Value.int .i64 z]
theorem IntsO.form {W : World} {B : Nat} {v : Value} {l : List Int} (h : IntsO W B v l) : ∃ a c, v = .slice a l.length c := by
  rcases h.2 with ⟨rfl, h0⟩ | ⟨g, cap, cur, rfl, _⟩
  · exact ⟨none, 0, by rw [h0]⟩
  · exact ⟨_, _, rfl⟩
theorem intCells : ∀ l : List Int, rowCells encI l = l.map encZ
  | [] => rfl
  | x :: l => by
    have := intCells l
    unfold rowCells at this ⊢
    rw [List.flatMap_cons, this]
    rfl
theorem IntsO.row {W : World} {B : Nat} {v : Value} {l : List Int} (h : IntsO W B v l) : RowV 1 encI W v l := rowV_own (B := B) (e := 3) (n := l.length) (fun _ => rfl) (by decide) (by rw [intCells]; exact h)
theorem IntsO.nil (W : World) (B : Nat) : IntsO W B (.slice none 0 0) [] := ⟨rfl, .inl ⟨rfl, rfl⟩⟩
/-- a row's cells laid anew, then cut -/
theorem own_relaid {W : World} {B g cap q k : Nat} {os : Array Obj} {l ts : List Int} (h : IntsO W B (.slice (some ⟨g, 0, none⟩) l.length cap) l) (ht : ts.length = l.length) (hk : k ≤ ts.length) :
    IntsO (Sort.grow (putRow (Value.int .i64) (Sort.ahead W q) g 0 ts.toArray) os) B (.slice (some ⟨g, 0, none⟩) (ts.take k).length cap) (ts.take k) ∧ ChgS (fun j => j = g) W (Sort.grow (putRow (Value.int .i64) (Sort.ahead W q) g 0 ts.toArray) os) := by
  obtain ⟨cur, hBg, _, hg, hn, hm, hs, _⟩ := own_row h rfl
  have hown := ownsRow_sorted_i (n := q) (os := os) (ss := l) (ts := ts) ht hBg hg hn hm hs
  have hgr := grownBy_sorted_i (w := W) (g := g) (n := q) (os := os) ts.toArray
  refine ⟨?_, ⟨hgr.os, hgr.tape, hgr.output, hgr.size, fun j hj hne => hgr.block j hj fun e => hne (Option.some.inj e)⟩⟩
  rw [← ht, ← intCells] at hown
  have hcut := own_cut (enc := encI) (fun _ => rfl) hown k hk
  rw [intCells] at hcut
  have hl : (ts.take k).length = k := by rw [List.length_take]; omega
  rw [IntsO, hl]
  exact hcut
theorem compact_len (l : List Int) : (Lib.compact l).length ≤ l.length := by
  unfold Lib.compact Lib.compactUpTo
  rw [List.length_map]
  exact Nat.le_trans (List.length_filter_le _ _) (by simp)
theorem compact_own {W : World} {B : Nat} {v : Value} {l : List Int} (h : IntsO W B v l) (hl : l.length ≤ 1000000) :
    Calls Try.prog 43 #[v] W fun e w' => ∃ v', e = .returned v' ∧ IntsO w' B v' (Lib.compact l) ∧ (v'.ownBlock = v.ownBlock) ∧ ChgS (fun j => v.ownBlock = some j) W w' := by
  rcases h.2 with ⟨rfl, h0⟩ | ⟨g, cap, cur, rfl, hBg, hg, hn, hm, hs, ht⟩
  · obtain rfl : l = [] := List.eq_nil_of_length_eq_zero h0
    refine (AnyG.slices_Compact_int_empty SH.laysCompact none 0 W).mono ?_
    rintro e w' ⟨rfl, rfl⟩
    exact ⟨_, rfl, h, rfl, ChgS.refl _ _⟩
  · have hH : Holds (Value.int .i64) W g 0 l.toArray := holds_of_block_i hg (by simpa using ht)
    refine (AnyG.slices_Compact_int SH.laysCompact g 0 cap l W hH (by omega) hn).mono ?_
    rintro e w' ⟨rfl, q, rfl⟩
    have hc := compact_len l
    have hr := own_relaid (q := q) (os := #[]) (k := (Lib.compact l).length) h (ts := Lib.compact l ++ List.replicate (l.length - (Lib.compact l).length) 0) (by simp; omega) (by simp)
    rw [List.take_left'  rfl, grow_empty] at hr
    exact ⟨_, rfl, hr.1, rfl, hr.2.os, hr.2.tape, hr.2.output, hr.2.size, fun j hj hne => hr.2.block j hj fun e => hne (by rw [e]; rfl)⟩
theorem sort_own {W : World} {B : Nat} {v : Value} {l : List Int} (h : IntsO W B v l) (hl : l.length ≤ 1000000) :
    Calls Try.prog 42 #[v] W fun e w' => (∃ u, e = .returned u) ∧ IntsO w' B v (l.mergeSort fun x y => decide (x ≤ y)) ∧ ChgS (fun j => v.ownBlock = some j) W w' := by
  rcases h.2 with ⟨rfl, h0⟩ | ⟨g, cap, cur, rfl, hBg, hg, hn, hm, hs, ht⟩
  · obtain rfl : l = [] := List.eq_nil_of_length_eq_zero h0
    refine (AnyM.slices_Sort_int_none SH.laysSort none 0 W).mono ?_
    rintro e w' ⟨rfl, rfl⟩
    exact ⟨⟨_, rfl⟩, by rw [List.mergeSort_nil]; exact h, ChgS.refl _ _⟩
  · have hH : Holds encZ W g 0 l.toArray := holds_of_block_i hg (by simpa using ht)
    refine (AnyM.slices_Sort_int SH.laysSort g 0 cap l W hH (Array.getElem?_eq_some_iff.1 hg).1 (by omega)).mono ?_
    rintro e w' ⟨rfl, nn, os, rfl⟩
    have hown := ownsRow_sorted_i (n := nn) (os := os) (ss := l) (ts := l.mergeSort fun x y => decide (x ≤ y)) (by simp) hBg hg hn hm hs
    have hgr := grownBy_sorted_i (w := W) (g := g) (n := nn) (os := os) (l.mergeSort fun x y => decide (x ≤ y)).toArray
    refine ⟨⟨_, rfl⟩, ?_, ⟨hgr.os, hgr.tape, hgr.output, hgr.size, fun j hj hne => hgr.block j hj fun e => hne e.symm⟩⟩
    rw [IntsO, List.length_mergeSort]
    exact hown
/-! ascending lists without repeats -/
namespace RW
theorem compact_sorted (l : List Int) (hl : l.Pairwise (· ≤ ·)) : ∀ m, m ≤ l.length → (Lib.compactUpTo l.toArray m).Pairwise (· < ·) ∧ (∀ x ∈ Lib.compactUpTo l.toArray m, ∃ j, ∃ h : j < l.length, j < m ∧ x = l[j]) ∧ (∀ j, ∀ h : j < l.length, j < m → l[j] ∈ Lib.compactUpTo l.toArray m)
  | 0, _ => ⟨List.Pairwise.nil, fun x hx => by simp [Lib.compactUpTo] at hx, fun j _ h => absurd h (by omega)⟩
  | m + 1, hm => by
    obtain ⟨h1, h2, h3⟩ := compact_sorted l hl m (by omega)
    have hml : m < l.length := by omega
    have hle : ∀ i j, ∀ hi : i < l.length, ∀ hj : j < l.length, i ≤ j → l[i] ≤ l[j] := fun i j hi hj hij => by
      rcases Nat.lt_or_eq_of_le hij with h | h
      · exact List.pairwise_iff_getElem.1 hl i j hi hj h
      · subst h; exact Int.le_refl _
    have hg : ∀ j, ∀ h : j < l.length, l.toArray[j]! = l[j] := fun j h => by
      rw [getElem!_pos l.toArray j (by simpa using h)]
      simp
    rw [Lib.compactUpTo_succ]
    cases hk : Lib.keeps l.toArray m
    · have hne : ¬ (m = 0 ∨ l.toArray[m]! ≠ l.toArray[m - 1]!) := by
        have := hk
        unfold Lib.keeps at this
        exact of_decide_eq_false this
      have hm0 : m ≠ 0 := fun h => hne (.inl h)
      have heq : l[m] = l[m - 1] := by
        have := Decidable.not_not.1 fun h => hne (.inr h)
        rw [hg m hml, hg (m - 1) (by omega)] at this
        exact this
      rw [if_neg Bool.false_ne_true, List.append_nil]
      refine ⟨h1, fun x hx => ?_, fun j h hj => ?_⟩
      · obtain ⟨j, hj, hjm, e⟩ := h2 x hx
        exact ⟨j, hj, by omega, e⟩
      · rcases Nat.lt_or_eq_of_le (Nat.le_of_lt_succ hj) with h' | h'
        · exact h3 j h h'
        · subst h'
          rw [heq]
          exact h3 (j - 1) (by omega) (by omega)
    · have hkk : m = 0 ∨ l.toArray[m]! ≠ l.toArray[m - 1]! := by
        have := hk
        unfold Lib.keeps at this
        exact of_decide_eq_true this
      rw [if_pos rfl, hg m hml]
      refine ⟨?_, fun x hx => ?_, fun j h hj => ?_⟩
      · rw [List.pairwise_append]
        refine ⟨h1, List.pairwise_singleton _ _, fun x hx y hy => ?_⟩
        rw [List.mem_singleton] at hy
        subst hy
        obtain ⟨j, hj, hjm, e⟩ := h2 x hx
        subst e
        have h4 := hkk.resolve_left (by omega)
        rw [hg m hml, hg (m - 1) (by omega)] at h4
        have h5 := hle j (m - 1) hj (by omega) (by omega)
        have h6 := hle (m - 1) m (by omega) hml (by omega)
        omega
      · rcases List.mem_append.1 hx with hx | hx
        · obtain ⟨j, hj, hjm, e⟩ := h2 x hx
          exact ⟨j, hj, by omega, e⟩
        · rw [List.mem_singleton] at hx
          exact ⟨m, hml, by omega, hx⟩
      · rcases Nat.lt_or_eq_of_le (Nat.le_of_lt_succ hj) with h' | h'
        · exact List.mem_append_left _ (h3 j h h')
        · subst h'
          exact List.mem_append_right _ (List.mem_singleton.2 rfl)
/-- a number put into an ascending list, once -/
def ins (l : List Int) (n : Int) : List Int := l.filter (fun x => decide (x < n)) ++ n :: l.filter (fun x => decide (n < x))
theorem mem_ins {l : List Int} {n x : Int} : x ∈ ins l n ↔ x ∈ l ∨ x = n := by
  unfold ins
  rw [List.mem_append, List.mem_cons, List.mem_filter, List.mem_filter, decide_eq_true_eq, decide_eq_true_eq]
  constructor
  · rintro (h | h | h)
    · exact .inl h.1
    · exact .inr h
    · exact .inl h.1
  · rintro (h | h)
    · rcases Int.lt_trichotomy x n with h1 | h1 | h1
      · exact .inl ⟨h, h1⟩
      · exact .inr (.inl h1)
      · exact .inr (.inr ⟨h, h1⟩)
    · exact .inr (.inl h)
theorem asc_ins {l : List Int} {n : Int} (h : l.Pairwise (· < ·)) : (ins l n).Pairwise (· < ·) := by
  unfold ins
  rw [List.pairwise_append, List.pairwise_cons]
  refine ⟨h.filter _, ⟨fun x hx => (by simpa using (List.mem_filter.1 hx).2), h.filter _⟩, fun x hx y hy => ?_⟩
  have h1 : x < n := by simpa using (List.mem_filter.1 hx).2
  rcases List.mem_cons.1 hy with rfl | hy
  · exact h1
  · have h2 : n < y := by simpa using (List.mem_filter.1 hy).2
    omega
/-- the ascending list of what occurs -/
def asc (l : List Int) : List Int := l.foldl ins []
theorem foldl_ins (l : List Int) : ∀ a : List Int, a.Pairwise (· < ·) → (l.foldl ins a).Pairwise (· < ·) ∧ ∀ x, x ∈ l.foldl ins a ↔ x ∈ a ∨ x ∈ l := by
  induction l with
  | nil => exact fun a h => ⟨h, fun x => by simp⟩
  | cons n l ih =>
    intro a h
    have := ih (ins a n) (asc_ins h)
    refine ⟨this.1, fun x => ?_⟩
    rw [List.foldl_cons, this.2 x, mem_ins, List.mem_cons]
    constructor
    · rintro ((h | h) | h)
      · exact .inl h
      · exact .inr (.inl h)
      · exact .inr (.inr h)
    · rintro (h | h | h)
      · exact .inl (.inl h)
      · exact .inl (.inr h)
      · exact .inr h
theorem asc_up (l : List Int) : (asc l).Pairwise (· < ·) := (foldl_ins l [] List.Pairwise.nil).1
theorem mem_asc (l : List Int) (x : Int) : x ∈ asc l ↔ x ∈ l := by
  have := (foldl_ins l [] List.Pairwise.nil).2 x
  exact this.trans (by simp)
theorem asc_snoc (l : List Int) (x : Int) : asc (l ++ [x]) = ins (asc l) x := by
  unfold asc
  rw [List.foldl_append]
  rfl
/-- two ascending lists of the same numbers are one -/
theorem asc_eq : ∀ {a b : List Int}, a.Pairwise (· < ·) → b.Pairwise (· < ·) → (∀ x, x ∈ a ↔ x ∈ b) → a = b
  | [], [], _, _, _ => rfl
  | [], y :: b, _, _, h => by have := (h y).2 (by simp); simp at this
  | x :: a, [], _, _, h => by have := (h x).1 (by simp); simp at this
  | x :: a, y :: b, h1, h2, h => by
    rw [List.pairwise_cons] at h1 h2
    have e : x = y := by
      have hx := (h x).1 (by simp)
      have hy := (h y).2 (by simp)
      rw [List.mem_cons] at hx hy
      rcases hx with rfl | hx
      · rfl
      · rcases hy with rfl | hy
        · rfl
        · have := h1.1 y hy
          have := h2.1 x hx
          omega
    subst e
    congr 1
    refine asc_eq h1.2 h2.2 fun z => ?_
    have := h z
    simp only [List.mem_cons] at this
    constructor
    · intro hz
      have h3 := h1.1 z hz
      rcases this.1 (.inr hz) with rfl | h4
      · omega
      · exact h4
    · intro hz
      have h3 := h2.1 z hz
      rcases this.2 (.inr hz) with rfl | h4
      · omega
      · exact h4
theorem asc_of_asc {l : List Int} (h : l.Pairwise (· < ·)) : asc l = l := asc_eq (asc_up l) h (mem_asc l)
theorem compact_asc (l : List Int) : Lib.compact (l.mergeSort fun x y => decide (x ≤ y)) = asc l := by
  have hs : (l.mergeSort fun x y : Int => decide (x ≤ y)).Pairwise (· ≤ ·) := by
    have := List.pairwise_mergeSort (le := fun x y : Int => decide (x ≤ y)) (by intro a b c h1 h2; simp at *; omega) (by intro a b; simp; omega) l
    exact this.imp (by intro a b h; simpa using h)
  have hp := List.mergeSort_perm l fun x y : Int => decide (x ≤ y)
  obtain ⟨s, hs0⟩ : ∃ s, s = l.mergeSort fun x y : Int => decide (x ≤ y) := ⟨_, rfl⟩
  rw [← hs0] at hs hp ⊢
  have h := compact_sorted s hs s.length (Nat.le_refl _)
  have he : Lib.compact s = Lib.compactUpTo s.toArray s.length := rfl
  rw [he]
  refine asc_eq h.1 (asc_up l) fun x => ?_
  rw [mem_asc, ← hp.mem_iff]
  constructor
  · intro hx
    obtain ⟨j, hj, _, rfl⟩ := h.2.1 x hx
    exact List.getElem_mem hj
  · intro hx
    obtain ⟨j, hj, rfl⟩ := List.getElem_of_mem hx
    exact h.2.2 j hj hj
theorem asc_len (l : List Int) : (asc l).length ≤ l.length := by
  rw [← compact_asc]
  exact Nat.le_trans (compact_len _) (by simp)
end RW
end Go.Proofs.Ytillplhadimgmaa

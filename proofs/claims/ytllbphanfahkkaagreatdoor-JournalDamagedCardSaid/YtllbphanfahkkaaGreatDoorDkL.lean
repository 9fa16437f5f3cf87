/-
  slices.Sorted(slices.Values(l)), slices.Compact, slices.DeleteFunc at ints of the call's own, whole: what they return, what they change.
-/
import Derived.Test.YtllbphanfahkkaaGreatDoorDkK
namespace Go.Proofs.YtllbphanfahkkaaGreatDoor
open Go.RowKit Go.Shelf Go.Lib Go.Sort
/-- a row of ints of the call's own -/
abbrev IntsO (W : World) (B : Nat) (v : Value) (l : List Int) : Prop := W.ownsRow B 3 1 v l.length (l.map encZ)
theorem collect_any (Bs : Nat) (sv : Value) (zs : List Int) (hlen : zs.length ≤ 1000000) (w : World) (hBs : Bs < w.heap.size) (hcs : w.cell? ⟨Bs, 0, none⟩ = some sv) (hI : IntsB w.heap.size w sv zs) :
    Calls Tryz.prog 106 #[.func (.func 108) #[] #[.pointer (some ⟨Bs, 0, none⟩)]] w fun e W' => ∃ v, e = .returned v ∧ IntsO W' w.heap.size v zs ∧ Below w.heap.size w W' := by
  have hA := hide ((callsIn_wide (n := 5)).1 (appendValues Bs sv zs hlen w hBs hcs hI))
  clear hBs hcs hI hlen
  go_enter Tryz.func106, Tryz.ntmps106
  go_wp2_with (go_at_call 142; refine hA.out.mono ?_; rintro e w' ⟨v, rfl, h1, h2⟩; have h1H := hide h1; have h2H := hide h2; clear h1 h2)
  go_ret
  exact ⟨v, rfl, h1H.out, h2H.out⟩
theorem sort_own {W : World} {B : Nat} {v : Value} {l : List Int} (h : IntsO W B v l) (hl : l.length ≤ 1000000) (hB : B ≤ W.heap.size) :
    Calls Tryz.prog 107 #[v] W fun e w' => (∃ u, e = .returned u) ∧ IntsO w' B v (l.mergeSort fun x y => decide (x ≤ y)) ∧ Below B W w' := by
  rcases h.2 with ⟨rfl, h0⟩ | ⟨g, cap, cur, rfl, hBg, hg, hn, hm, hs, ht⟩
  · obtain rfl : l = [] := List.eq_nil_of_length_eq_zero h0
    refine (AnyM.slices_Sort_int_none SH.laysSort none 0 W).mono ?_
    rintro e w' ⟨rfl, rfl⟩
    exact ⟨⟨_, rfl⟩, by rw [List.mergeSort_nil]; exact h, Below.refl _ _⟩
  · have hH : Holds encZ W g 0 l.toArray := holds_of_block_i hg (by simpa using ht)
    refine (AnyM.slices_Sort_int SH.laysSort g 0 cap l W hH (Array.getElem?_eq_some_iff.1 hg).1 (by omega)).mono ?_
    rintro e w' ⟨rfl, nn, os, rfl⟩
    have hown := ownsRow_sorted_i (n := nn) (os := os) (ss := l) (ts := l.mergeSort fun x y => decide (x ≤ y)) (by simp) hBg hg hn hm hs
    refine ⟨⟨_, rfl⟩, ?_, (Below.refl B W).grown (grownBy_sorted_i _) hB (fun j hj => by cases hj; exact hBg)⟩
    rw [IntsO, List.length_mergeSort]
    exact hown
theorem sorted_values (Bs : Nat) (sv : Value) (zs : List Int) (hlen : zs.length ≤ 1000000) (w : World) (hBs : Bs < w.heap.size) (hcs : w.cell? ⟨Bs, 0, none⟩ = some sv) (hI : IntsB w.heap.size w sv zs) :
    Calls Tryz.prog 66 #[.func (.func 108) #[] #[.pointer (some ⟨Bs, 0, none⟩)]] w fun e W' => ∃ v, e = .returned v ∧ IntsO W' w.heap.size v (zs.mergeSort fun x y => decide (x ≤ y)) ∧ Below w.heap.size w W' := by
  have hC := hide (collect_any Bs sv zs hlen w hBs hcs hI)
  have hlH := hide hlen
  clear hBs hcs hI hlen
  go_enter Tryz.func66, Tryz.ntmps66
  go_wp2_with (first
    | (go_at_call 106; refine hC.out.mono ?_; rintro e w' ⟨v, rfl, h1, h2⟩; have h1H := hide h1; have h2H := hide h2; clear h1 h2)
    | (go_at_call 107; refine (sort_own h1H.out hlH.out h2H.out.size).mono ?_; rintro e w2 ⟨⟨u, rfl⟩, h3, h4⟩; have h3H := hide h3; have h4H := hide h4; clear h3 h4))
  go_ret
  exact ⟨v, rfl, h3H.out, h2H.out.trans h4H.out⟩
theorem values_any (a : Option Addr) (n c : Nat) (W : World) : Calls Tryz.prog 67 #[.slice a n c] W fun e w' => e = .returned (.func (.func 108) #[] #[.pointer (some ⟨W.heap.size, 0, none⟩)]) ∧ w' = W.alloc (.cells #[.slice a n c] 56) := by
  go_enter Tryz.func67, Tryz.ntmps67
  go_wp2
  go_ret
  exact ⟨rfl, rfl⟩
theorem intCells : ∀ l : List Int, rowCells (fun z => [Value.int .i64 z]) l = l.map encZ
  | [] => rfl
  | x :: l => by
    have := intCells l
    unfold rowCells at this ⊢
    rw [List.flatMap_cons, this]
    rfl
/-- a row's cells laid anew, then cut -/
theorem own_relaid {W : World} {B g cap q k : Nat} {l ts : List Int} (h : IntsO W B (.slice (some ⟨g, 0, none⟩) l.length cap) l) (ht : ts.length = l.length) (hk : k ≤ ts.length) :
    IntsO (putRow (Value.int .i64) (Sort.ahead W q) g 0 ts.toArray) B (.slice (some ⟨g, 0, none⟩) (ts.take k).length cap) (ts.take k) ∧ ChgS (fun j => j = g) W (putRow (Value.int .i64) (Sort.ahead W q) g 0 ts.toArray) := by
  obtain ⟨cur, hBg, _, hg, hn, hm, hs, _⟩ := own_row h rfl
  have hown := ownsRow_sorted_i (n := q) (os := #[]) (ss := l) (ts := ts) ht hBg hg hn hm hs
  rw [grow_empty] at hown
  have hgr := grownBy_sorted_i (w := W) (g := g) (n := q) (os := #[]) ts.toArray
  rw [grow_empty] at hgr
  refine ⟨?_, ⟨hgr.os, hgr.tape, hgr.output, hgr.size, fun j hj hne => hgr.block j hj fun e => hne (Option.some.inj e)⟩⟩
  rw [← ht, ← intCells] at hown
  have hcut := own_cut (enc := fun z => [Value.int .i64 z]) (fun _ => rfl) hown k hk
  rw [intCells] at hcut
  have hl : (ts.take k).length = k := by rw [List.length_take]; omega
  rw [IntsO, hl]
  exact hcut
theorem compact_len (l : List Int) : (Lib.compact l).length ≤ l.length := by
  unfold Lib.compact Lib.compactUpTo
  rw [List.length_map]
  exact Nat.le_trans (List.length_filter_le _ _) (by simp)
theorem compact_own {W : World} {B : Nat} {v : Value} {l : List Int} (h : IntsO W B v l) (hl : l.length ≤ 1000000) :
    Calls Tryz.prog 65 #[v] W fun e w' => ∃ v', e = .returned v' ∧ IntsO w' B v' (Lib.compact l) ∧ (v'.ownBlock = v.ownBlock) ∧ ChgS (fun j => v.ownBlock = some j) W w' := by
  rcases h.2 with ⟨rfl, h0⟩ | ⟨g, cap, cur, rfl, hBg, hg, hn, hm, hs, ht⟩
  · obtain rfl : l = [] := List.eq_nil_of_length_eq_zero h0
    refine (AnyG.slices_Compact_int_empty SH.laysCompact none 0 W).mono ?_
    rintro e w' ⟨rfl, rfl⟩
    exact ⟨_, rfl, h, rfl, ChgS.refl _ _⟩
  · have hH : Holds (Value.int .i64) W g 0 l.toArray := holds_of_block_i hg (by simpa using ht)
    refine (AnyG.slices_Compact_int SH.laysCompact g 0 cap l W hH (by omega) hn).mono ?_
    rintro e w' ⟨rfl, q, rfl⟩
    have hc := compact_len l
    have hr := own_relaid (q := q) (k := (Lib.compact l).length) h (ts := Lib.compact l ++ List.replicate (l.length - (Lib.compact l).length) 0) (by simp; omega) (by simp)
    rw [List.take_left'  rfl] at hr
    exact ⟨_, rfl, hr.1, rfl, hr.2.os, hr.2.tape, hr.2.output, hr.2.size, fun j hj hne => hr.2.block j hj fun e => hne (by rw [e]; rfl)⟩
/-- what Crash's closure says of an index -/
def outB (k : Nat) (x : Int) : Bool := decide (x < 0) || decide ((k : Int) ≤ x)
theorem gives_out (k : Nat) (x : Int) (xb b : Nat) (p : Option Addr) (c : Nat) (W : World) (h1 : W.cell? ⟨xb, 0, none⟩ = some (.pointer (some ⟨b, 0, none⟩))) (h2 : W.cell? ⟨b, 4, none⟩ = some (.slice p k c)) :
    FnGives Tryz.prog 69 #[.pointer (some ⟨xb, 0, none⟩)] #[.int .i64 x] (.bool (outB k x)) W := by
  show Calls Tryz.prog 69 #[.int .i64 x, .pointer (some ⟨xb, 0, none⟩)] W _
  by_cases hx : x < 0
  · have e := hide (show outB k x = true by rw [outB, decide_eq_true hx]; rfl)
    go_enter Tryz.func69, Tryz.ntmps69
    go_wp2
    go_ret
    exact ⟨by rw [e.out] <;> rfl, 0, rfl⟩
  · by_cases hk : (k : Int) ≤ x
    · have e := hide (show outB k x = true by rw [outB, decide_eq_true hk, Bool.or_true])
      go_enter Tryz.func69, Tryz.ntmps69
      go_wp2
      go_ret
      exact ⟨by rw [e.out] <;> rfl, 0, rfl⟩
    · have e := hide (show outB k x = false by rw [outB, decide_eq_false hk, decide_eq_false hx]; rfl)
      go_enter Tryz.func69, Tryz.ntmps69
      go_wp2
      go_ret
      exact ⟨by rw [e.out] <;> rfl, 0, rfl⟩
theorem index_nil (fv : Value) (W : World) : Calls Tryz.prog 109 #[.slice none 0 0, fv] W fun e w' => e = .returned (.int .i64 (-1)) ∧ w' = W := by
  go_enter Tryz.func109, Tryz.ntmps109
  go_wp2
  go_loopw [8] (fun i wr => i = .int .i64 0 ∧ wr = W) (fun _ _ => 0)
  case atStart => exact ⟨rfl, rfl⟩
  case round =>
    obtain ⟨rfl, rfl⟩ := hrel
    go_wp2
    go_ret
    exact ⟨rfl, rfl⟩
theorem delete_nil (fv : Value) (W : World) : Calls Tryz.prog 68 #[.slice none 0 0, fv] W fun e w' => e = .returned (.slice none 0 0) ∧ w' = W := by
  have hI := hide (index_nil fv W)
  go_enter Tryz.func68, Tryz.ntmps68
  go_wp2_with (go_at_call 109; refine hI.out.mono ?_; rintro e w' ⟨rfl, rfl⟩)
  go_ret
  exact ⟨rfl, rfl⟩
theorem delete_own {W : World} {B : Nat} {v : Value} {l : List Int} (h : IntsO W B v l) (hl : l.length ≤ 1000000) (k xb b : Nat) (p : Option Addr) (c : Nat) (hxb : xb < W.heap.size) (hb : b < W.heap.size) (hne : ∀ g, v.ownBlock = some g → xb ≠ g ∧ b ≠ g)
    (h1 : W.cell? ⟨xb, 0, none⟩ = some (.pointer (some ⟨b, 0, none⟩))) (h2 : W.cell? ⟨b, 4, none⟩ = some (.slice p k c)) :
    Calls Tryz.prog 68 #[v, .func (.func 69) #[] #[.pointer (some ⟨xb, 0, none⟩)]] W fun e w' => ∃ v', e = .returned v' ∧ IntsO w' B v' (l.filter fun x => !outB k x) ∧ ChgS (fun j => v.ownBlock = some j) W w' := by
  have eg : ∀ args w, (callFunc 69 args).run Tryz.prog w = .ok (.enter 69 args) w := enters_of Tryz.func69 (by kernel_rfl) rfl
  have hp : PredAt Tryz.prog 69 #[.pointer (some ⟨xb, 0, none⟩)] (Value.int .i64) (outB k) W :=
    fun W' x hB => gives_out k x xb b p c W' ((hB.cell (p := ⟨xb, 0, none⟩) hxb).trans h1) ((hB.cell (p := ⟨b, 4, none⟩) hb).trans h2)
  rcases h.2 with ⟨rfl, h0⟩ | ⟨g, cap, cur, rfl, hBg, hg, hn, hm, hs, ht⟩
  · obtain rfl : l = [] := List.eq_nil_of_length_eq_zero h0
    refine (delete_nil _ W).mono ?_
    rintro e w' ⟨rfl, rfl⟩
    exact ⟨_, rfl, h, ChgS.refl _ _⟩
  · have hH : Holds (Value.int .i64) W g 0 l.toArray := holds_of_block_i hg (by simpa using ht)
    obtain ⟨n1, n2⟩ := hne g rfl
    have hpo : PredOver Tryz.prog 69 #[.pointer (some ⟨xb, 0, none⟩)] (Value.int .i64) (outB k) g 0 l.toArray.size W := fun n os dk x _ => gives_out k x xb b p c _
      (by
        unfold sortWorld
        rw [cell?_grow _ _ _ (by show xb < (putRow _ _ _ _ _).heap.size; rw [size_putRow]; exact hxb), cell?_putRow_other _ _ g 0 _ _ (Or.inl n1)]
        exact h1)
      (by
        unfold sortWorld
        rw [cell?_grow _ _ _ (by show b < (putRow _ _ _ _ _).heap.size; rw [size_putRow]; exact hb), cell?_putRow_other _ _ g 0 _ _ (Or.inl n2)]
        exact h2)
    have hcon := AnyE.slices_DeleteFunc SH.laysDel (Value.int .i64) (fun _ => rfl) (outB k) 69 #[.pointer (some ⟨xb, 0, none⟩)] eg 0 Tryz.zeroValue3 g 0 cap l.toArray W hp hpo hH (by simp; omega) (by simpa using hn)
    refine Calls.mono (R := _) hcon ?_
    rintro e w' ⟨rfl, q, rfl⟩
    have hfl : (l.filter fun x => !outB k x).length ≤ l.length := List.length_filter_le _ _
    have hr := own_relaid (q := q) (k := (l.filter fun x => !outB k x).length) h (ts := (l.filter fun x => !outB k x) ++ List.replicate (l.length - (l.filter fun x => !outB k x).length) 0) (by simp; omega) (by simp)
    rw [List.take_left' rfl] at hr
    exact ⟨_, rfl, by simpa using hr.1, rfl, rfl, rfl, by simp, fun j hj hnj => by simpa using hr.2.block j hj fun e => hnj (by rw [e]; rfl)⟩
end Go.Proofs.YtllbphanfahkkaaGreatDoor

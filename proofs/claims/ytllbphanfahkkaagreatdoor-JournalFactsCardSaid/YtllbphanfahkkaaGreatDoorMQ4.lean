/-
  slices.Sorted(slices.Values(l)), slices.Compact, slices.DeleteFunc at ints of the call's own: what they return; only new memory and the row itself are written. (The walks of the iterator turned from the kit's worked example.)
-/
import Derived.RangeFuncBox
import Derived.RangeFuncWrites
import Derived.RangeFuncLeaves
import Derived.RangeFuncKeeps
import Derived.Shelf.Abstract
import Derived.Shelf.SlIterI.Nil
import Derived.OwnWalkIn
import Derived.TacticsInMore
import Derived.LoopNIn
import Derived.LoopIn
import Derived.Test.YtllbphanfahkkaaGreatDoorMQ3
import Derived.Test.YtllbphanfahkkaaGreatDoorMY2
namespace Go.Proofs.YtllbphanfahkkaaGreatDoor
open Go.RowKit Go.Shelf Go.Lib Go.Sort
attribute [local go_sem] Oper.semAt_some
/-- a slice of ints, in a block below n0 -/
def IntsB (n0 : Nat) (W : World) (sv : Value) (zs : List Int) : Prop :=
  ∃ a cap, sv = .slice a zs.length cap ∧ (zs = [] ∨ ∃ b off, a = some ⟨b, off, none⟩ ∧ b < n0 ∧ ∀ j x, zs[j]? = some x → W.cell? ⟨b, off + j, none⟩ = some (.int .i64 x))
theorem IntsB.below {n0 : Nat} {W W' : World} {sv : Value} {zs : List Int} (h : IntsB n0 W sv zs) (hB : Below n0 W W') : IntsB n0 W' sv zs := by
  obtain ⟨a, cap, e, h⟩ := h
  refine ⟨a, cap, e, h.imp id ?_⟩
  rintro ⟨b, off, e1, hb, hc⟩
  exact ⟨b, off, e1, hb, fun j x hx => (hB.cell (p := ⟨b, off + j, none⟩) hb).trans (hc j x hx)⟩
set_option maxRecDepth 100000 in
set_option maxHeartbeats 2000000 in
theorem values1_in (n : Nat) (hn : 1 ≤ n) (l Bs n0 : Nat) (a : Option Addr) (cap : Nat) (zs : List Int) (hz : zs.length ≤ 1000000) (J Jx : List Int → World → Prop)
    (hY : ∀ pre x W, J pre W → pre.length < zs.length → YieldAt Fence.wide (n - 1) Tryz.prog l #[.int .i64 x] W fun e W' =>
      (e = .returned (.bool true) ∧ J (pre ++ [x]) W' ∧ Below n0 W W') ∨ (e = .returned (.bool false) ∧ Jx (pre ++ [x]) W'))
    (W : World) (hBs : W.cell? ⟨Bs, 0, none⟩ = some (.slice a zs.length cap)) (hI : IntsB n0 W (.slice a zs.length cap) zs) (h0 : J [] W) :
    CallsIn Fence.wide n Tryz.prog 108 #[.func (.yield l) #[] #[], .pointer (some ⟨Bs, 0, none⟩)] W fun e W' => (∃ v, e = .returned v) ∧
      (J zs W' ∨ (∃ k, k ≤ zs.length ∧ Jx (zs.take k) W')) := by
  obtain ⟨m, hm⟩ : ∃ m, m = zs.length := ⟨_, rfl⟩
  have hmH := hide hm
  have hIH := hide hI
  have hYH := hide hY
  rw [← hm] at hBs hz
  clear hI hY hm
  refine callsIn_of_wp Tryz.func108 rfl trivial ?_ rfl
  simp only [Tryz.ntmps108, List.size_toArray, List.length_cons, List.length_nil, Nat.reduceAdd, Nat.reduceSub, Array.replicate_succ, Array.replicate_zero, List.push_toArray, List.append_toArray, List.nil_append, List.cons_append]
  gi_wp2
  gi_loopw [7] (fun i wr => ∃ k : Nat, k ≤ m ∧ i = .int .i64 k ∧ J (zs.take k) wr ∧ Below n0 W wr) (fun i _ => m - (intOf i).toNat)
  case atStart => exact ⟨0, Nat.zero_le _, rfl, h0, Below.refl _ _⟩
  case round =>
    obtain ⟨k, hk, rfl, hJs, hnx⟩ := hrel
    by_cases hlt : k < m
    · obtain ⟨x, hx⟩ : ∃ x, zs[k]? = some x := ⟨_, List.getElem?_eq_getElem (by rw [← hmH.out]; exact hlt)⟩
      obtain ⟨a', cap', he, hor⟩ := hIH.out.below hnx
      obtain ⟨b, off, rfl, hb, hc⟩ := hor.resolve_left (by rintro rfl; simp at hx)
      obtain rfl : a = some ⟨b, off, none⟩ := by injection he
      have hcx := hc k x hx
      obtain ⟨fn, tmps, assign, body, hy, hR⟩ := hYH.out (zs.take k) x wr hJs (by rw [List.length_take, ← hmH.out]; omega)
      have hst := hide (show zs.take (k + 1) = zs.take k ++ [x] by rw [List.take_add_one, hx, Option.toList_some])
      clear he hor hb hc hx
      gi_wp2
      refine hR.mono ?_
      rintro e W3 (⟨rfl, hJ3, hk3⟩ | ⟨rfl, hJx3⟩)
      · gi_wp2
        go_roundw
        case rel => exact ⟨k + 1, by omega, by simp, by rw [hst.out]; exact hJ3, hnx.trans hk3⟩
        case measure => simp [intOf]; omega
      · gi_wp2
        refine bodyPost_ret (results_none rfl _ _ _) rfl ?_
        exact ⟨⟨_, rfl⟩, .inr ⟨k + 1, by rw [← hmH.out]; omega, by rw [hst.out]; exact hJx3⟩⟩
    · obtain rfl : k = m := by omega
      have hJe := hide (show J zs wr by rw [List.take_of_length_le (by rw [← hmH.out]; exact Nat.le_refl _)] at hJs; exact hJs)
      clear hJs
      gi_wp2
      go_end0
      exact ⟨⟨_, rfl⟩, .inl hJe.out⟩
theorem values_stops (n : Nat) (hn : 1 ≤ n) (Bs n0 : Nat) (sv : Value) (zs : List Int) (hz : zs.length ≤ 1000000) (w : World) (hBs : Bs < w.heap.size) (hn0 : n0 ≤ w.heap.size) (hc : w.cell? ⟨Bs, 0, none⟩ = some sv) (hI : IntsB n0 w sv zs) :
    SeqStopsK Fence.wide n Tryz.prog 108 #[.pointer (some ⟨Bs, 0, none⟩)] (fun x : Int => #[Value.int .i64 x]) (Below n0) (fun ys => ys = zs) (fun pre => pre <+: zs) zs.length w := fun l J Jx W hW _ _ hY h0 => by
  have hc' := (hW.cell (p := ⟨Bs, 0, none⟩) hBs).trans hc
  have hI' := hI.below (hW.mono hn0)
  obtain ⟨a, cap, rfl, hor⟩ := hI
  refine (values1_in n hn l Bs n0 a cap zs hz J Jx hY W hc' hI' h0).mono ?_
  rintro e W' ⟨he, hj | ⟨k, hk, hj⟩⟩
  · exact ⟨he, .inl ⟨_, rfl, hj⟩⟩
  · exact ⟨he, .inr ⟨_, List.take_prefix _ _, hj⟩⟩
theorem int_info : (Tryz.prog.info? 3).map (fun i => (i.zero, i.size, i.bytes)) = some (some (.int .i64 0), 1, 8) := by kernel_rfl
set_option maxRecDepth 100000 in
set_option maxHeartbeats 2000000 in
theorem appendValues (Bs : Nat) (sv : Value) (zs : List Int) (hlen : zs.length ≤ 1000000) (w : World) (hBs : Bs < w.heap.size) (hcs : w.cell? ⟨Bs, 0, none⟩ = some sv) (hI : IntsB w.heap.size w sv zs) :
    CallsIn Fence.wide 5 Tryz.prog 142 #[.slice none 0 0, .func (.func 108) #[] #[.pointer (some ⟨Bs, 0, none⟩)]] w fun e W' => ∃ v, e = .returned v ∧ W'.ownsRow w.heap.size 3 1 v zs.length (zs.map (Value.int .i64)) ∧ Below w.heap.size w W' := by
  obtain ⟨i0, hi, hz0, hz1, hz2⟩ := info_parts int_info
  refine callsIn_of_wp_marks Tryz.func142 rfl trivial ?_ rfl
  simp only [Tryz.ntmps142, List.size_toArray, List.length_cons, List.length_nil, Nat.reduceAdd, Nat.reduceSub, Array.replicate_succ, Array.replicate_zero, List.push_toArray, List.append_toArray, List.nil_append, List.cons_append]
  gi_wp2
  have bO := Boxed.new w 56 (.slice none 0 0)
  have hB0 : Below w.heap.size w (w.alloc (.cells #[.slice none 0 0] 56)) := (Below.refl _ w).alloc (Nat.le_refl _) _
  refine wpIn_rangeFunc_ownG rfl (by decide) (gf := 108) (lb := #[.pointer (some ⟨Bs, 0, none⟩)]) rfl trivial (enters_of Tryz.func108 (by kernel_rfl) rfl)
    (values_stops 4 (by decide) Bs w.heap.size sv zs hlen _ (by simp; omega) (by simp) ((hB0.cell (p := ⟨Bs, 0, none⟩) hBs).trans hcs) (hI.below hB0)) belowK_t (belowK_b (by simp)) (Below.refl _ _) (fun _ => rfl)
    (fun pre W => (∃ v, Boxed W w.heap.size 56 v ∧ W.ownsRow w.heap.size 3 1 v pre.length (pre.map (Value.int .i64)) ∧ True) ∧ Below w.heap.size w W)
    (fun _ _ _ => False)
    (OwnFrom.and (Own.from (holdsRow_own w.heap.size w.heap.size 56 3 1 (fun pre : List Int => pre.length) (fun pre : List Int => pre.map (Value.int .i64)) (fun _ _ => True)) _) (ownFrom_below (Nat.le_refl _) (by simp)))
    (fun _ _ _ _ _ hs _ _ => hs)
    ⟨⟨_, bO, World.ownsRow_nil _ _ _ _, trivial⟩, hB0⟩
    (fun x => { tmps := #[.slice none 0 0, .func (.func 108) #[] #[.pointer (some ⟨Bs, 0, none⟩)], .pointer (some ⟨w.heap.size, 0, none⟩), undef, .slice none 0 0, .int .i64 x, .func (.func 108) #[] #[.pointer (some ⟨Bs, 0, none⟩)], .int .i64 x, undef, undef, undef, undef, undef], defers := [] }) ?assign ?body ?done ?stop
  case assign =>
    intro l x W K hK
    gi_wp2
    exact hK
  case body =>
    rintro l pre x W ⟨⟨v, hv, hrow, _⟩, hB⟩ hlt
    have hc := hv.cell
    gi_wp2_with (gi_at_builtin; refine wpListIn_append_own _ rfl _ _ 56 rfl w.heap.size 3 i0 (.int .i64 0) 1 8 Tryz.underlying56 hi hz0 hz1 hz2 rfl (by decide) _ _ _ rfl (hrow.alloc _) ⟨W.heap.size, 0, none⟩ 1 1 [.int .i64 x] rfl rfl (cell_one_new _ _ _) (by simp [Value.oneCell']) (by unfold maxLen; omega) (by omega) (by have := hB.size; simp; omega) ?_; intro v' w1 hown' hgrow _; obtain ⟨g', cap', rfl⟩ := ownsRow_succ hown'; obtain ⟨hv1, hv2, hr2, hk2, hb2⟩ := hv.appended (by decide) hrow hB.size (Nat.le_refl _) hown' hgrow; have hc1 := hv1.cell; have hf1 := hv1.frozen)
    exact ⟨hk2.from _, hb2, ⟨_, hv2, by simpa using hr2, trivial⟩, hB.trans hb2⟩
  case done =>
    rintro D ys W hD rfl ⟨⟨v, hv, hrow, _⟩, hB⟩ hK
    have hc := hv.cell
    gi_wp2
    refine ⟨by simp, .inl ⟨_, _, rfl, run_takeDeferred hK, ?_⟩⟩
    exact ⟨_, results_tmp rfl _ _ _, v, rfl, ownsRow_putObj hrow _ hK rfl, hB.trans (belowK_b (w := w) (Nat.le_refl _) W D _ _ (by simp at hD; omega) hK rfl rfl)⟩
  case stop =>
    rintro D c pre W _ _ h _
    exact h.elim
end Go.Proofs.YtllbphanfahkkaaGreatDoor

/-
  slices.Sorted(slices.Values(l)), slices.Compact, slices.DeleteFunc at ints of the call's own, whole: what they return, what they change.
-/
namespace Go.Proofs.YtllbphanfahkkaaGreatDoor
open Go.RowKit Go.Shelf Go.Lib Go.Sort
/-- a row of ints of the call's own -/
abbrev IntsO (W : World) (B : Nat) (v : Value) (l : List Int) : Prop := W.ownsRow B 3 1 v l.length (l.map encZ)
theorem collect_any (Bs : Nat) (sv : Value) (zs : List Int) (hlen : zs.length ≤ 1000000) (w : World) (hBs : Bs < w.heap.size) (hcs : w.cell? ⟨Bs, 0, none⟩ = some sv) (hI : IntsB w.heap.size w sv zs) :
    Calls Tryz.prog 106 #[.func (.func 108) #[] #[.pointer (some ⟨Bs, 0, none⟩)]] w fun e W' => ∃ v, e = .returned v ∧ IntsO W' w.heap.size v zs ∧ Below w.heap.size w W' := by
  have hA := hide ((callsIn_wide (n := 5)).1 (appendValues Bs sv zs hlen w hBs hcs hI))
  clear hBs hcs hI hlen
  go_enter Tryz.func106, Tryz.ntmps106
  go_wp2_with (go_at_call 142; refine hA.out.mono ?_; rintro e w' ⟨v, rfl, h1, h2⟩; have h1H := hide h1; have h2H := hide h2; clear h1 h2)
  go_ret
  exact ⟨v, rfl, h1H.out, h2H.out⟩
theorem sort_own {W : World} {B : Nat} {v : Value} {l : List Int} (h : IntsO W B v l) (hl : l.length ≤ 1000000) (hB : B ≤ W.heap.size) :
    Calls Tryz.prog 107 #[v] W fun e w' => (∃ u, e = .returned u) ∧ IntsO w' B v (l.mergeSort fun x y => decide (x ≤ y)) ∧ Below B W w' := by
  rcases h.2 with ⟨rfl, h0⟩ | ⟨g, cap, cur, rfl, hBg, hg, hn, hm, hs, ht⟩
  · obtain rfl : l = [] := List.eq_nil_of_length_eq_zero h0
    refine (AnyM.slices_Sort_int_none SH.laysSort none 0 W).mono ?_
    rintro e w' ⟨rfl, rfl⟩
    exact ⟨⟨_, rfl⟩, by rw [List.mergeSort_nil]; exact h, Below.refl _ _⟩
  · have hH : Holds encZ W g 0 l.toArray := holds_of_block_i hg (by simpa using ht)
    refine (AnyM.slices_Sort_int SH.laysSort g 0 cap l W hH (Array.getElem?_eq_some_iff.1 hg).1 (by omega)).mono ?_
    rintro e w' ⟨rfl, nn, os, rfl⟩
    have hown := ownsRow_sorted_i (n := nn) (os := os) (ss := l) (ts := l.mergeSort fun x y => decide (x ≤ y)) (by simp) hBg hg hn hm hs
    refine ⟨⟨_, rfl⟩, ?_, (Below.refl B W).grown (grownBy_sorted_i _) hB (fun j hj => by cases hj; exact hBg)⟩
    rw [IntsO, List.length_mergeSort]
    exact hown
theorem sorted_values (Bs : Nat) (sv : Value) (zs : List Int) (hlen : zs.length ≤ 1000000) (w : World) (hBs : Bs < w.heap.size) (hcs : w.cell? ⟨Bs, 0, none⟩ = some sv) (hI : IntsB w.heap.size w sv zs) :
    Calls Tryz.prog 66 #[.func (.func 108) #[] #[.pointer (some ⟨Bs, 0, none⟩)]] w fun e W' => ∃ v, e = .returned v ∧ IntsO W' w.heap.size v (zs.mergeSort fun x y => decide (x ≤ y)) ∧ Below w.heap.size w W' := by
  have hC := hide (collect_any Bs sv zs hlen w hBs hcs hI)
  have hlH := hide hlen
  clear hBs hcs hI hlen
  go_enter Tryz.func66, Tryz.ntmps66
  go_wp2_with (first
    | (go_at_call 106; refine hC.out.mono ?_; rintro e w' ⟨v, rfl, h1, h2⟩; have h1H := hide h1; have h2H := hide h2; clear h1 h2)
    | (go_at_call 107; refine (sort_own h1H.out hlH.out h2H.out.size).mono ?_; rintro e w2 ⟨⟨u, rfl⟩, h3, h4⟩; have h3H := hide h3; have h4H := hide h4; clear h3 h4))
  go_ret
  exact ⟨v, rfl, h3H.out, h2H.out.trans h4H.out⟩
theorem values_any (a : Option Addr) (n c : Nat) (W : World) : Calls Tryz.prog 67 #[.slice a n c] W fun e w' => e = .returned (.func (.func 108) #[] #[.pointer (some ⟨W.heap.size, 0, none⟩)]) ∧ w' = W.alloc (.cells #[.slice a n c] 56) := by
  go_enter Tryz.func67, Tryz.ntmps67
  go_wp2
  go_ret
  exact ⟨rfl, rfl⟩
theorem intCells : ∀ l : List Int, rowCells (fun z => [Value.int .i64 z]) l = l.map encZ
  | [] => rfl
  | x :: l => by
    have := intCells l
    unfold rowCells at this ⊢
    rw [List.flatMap_cons, this]
    rfl
/-- a row's cells laid anew, then cut -/
theorem own_relaid {W : World} {B g cap q k : Nat} {l ts : List Int} (h : IntsO W B (.slice (some ⟨g, 0, none⟩) l.length cap) l) (ht : ts.length = l.length) (hk : k ≤ ts.length) :
    IntsO (putRow (Value.int .i64) (Sort.ahead W q) g 0 ts.toArray) B (.slice (some ⟨g, 0, none⟩) (ts.take k).length cap) (ts.take k) ∧ ChgS (fun j => j = g) W (putRow (Value.int .i64) (Sort.ahead W q) g 0 ts.toArray) := by
  obtain ⟨cur, hBg, _, hg, hn, hm, hs, _⟩ := own_row h rfl
  have hown := ownsRow_sorted_i (n := q) (os := #[]) (ss := l) (ts := ts) ht hBg hg hn hm hs
  rw [grow_empty] at hown
  have hgr := grownBy_sorted_i (w := W) (g := g) (n := q) (os := #[]) ts.toArray
  rw [grow_empty] at hgr
  refine ⟨?_, ⟨hgr.os, hgr.tape, hgr.output, hgr.size, fun j hj hne => hgr.block j hj fun e => hne (Option.some.inj e)⟩⟩
  rw [← ht, ← intCells] at hown
  have hcut := own_cut (enc := fun z => [Value.int .i64 z]) (fun _ => rfl) hown k hk
  rw [intCells] at hcut
  have hl : (ts.take k).length = k := by rw [List.length_take]; omega
  rw [IntsO, hl]
  exact hcut
theorem compact_len (l : List Int) : (Lib.compact l).length ≤ l.length := by
  unfold Lib.compact Lib.compactUpTo
  rw [List.length_map]
  exact Nat.le_trans (List.length_filter_le _ _) (by simp)
theorem compact_own {W : World} {B : Nat} {v : Value} {l : List Int} (h : IntsO W B v l) (hl : l.length ≤ 1000000) :
    Calls Tryz.prog 65 #[v] W fun e w' => ∃ v', e = .returned v' ∧ IntsO w' B v' (Lib.compact l) ∧ (v'.ownBlock = v.ownBlock) ∧ ChgS (fun j => v.ownBlock = some j) W w' := by
  rcases h.2 with ⟨rfl, h0⟩ | ⟨g, cap, cur, rfl, hBg, hg, hn, hm, hs, ht⟩
  · obtain rfl : l = [] := List.eq_nil_of_length_eq_zero h0
    refine (AnyG.slices_Compact_int_empty SH.laysCompact none 0 W).mono ?_
    rintro e w' ⟨rfl, rfl⟩
    exact ⟨_, rfl, h, rfl, ChgS.refl _ _⟩
  · have hH : Holds (Value.int .i64) W g 0 l.toArray := holds_of_block_i hg (by simpa using ht)
    refine (AnyG.slices_Compact_int SH.laysCompact g 0 cap l W hH (by omega) hn).mono ?_
    rintro e w' ⟨rfl, q, rfl⟩
    have hc := compact_len l
    have hr := own_relaid (q := q) (k := (Lib.compact l).length) h (ts := Lib.compact l ++ List.replicate (l.length - (Lib.compact l).length) 0) (by simp; omega) (by simp)
    rw [List.take_left'  rfl] at hr
    exact ⟨_, rfl, hr.1, rfl, hr.2.os, hr.2.tape, hr.2.output, hr.2.size, fun j hj hne => hr.2.block j hj fun e => hne (by rw [e]; rfl)⟩
/-- what Crash's closure says of an index -/
def outB (k : Nat) (x : Int) : Bool := decide (x < 0) || decide ((k : Int) ≤ x)
theorem gives_out (k : Nat) (x : Int) (xb b : Nat) (p : Option Addr) (c : Nat) (W : World) (h1 : W.cell? ⟨xb, 0, none⟩ = some (.pointer (some ⟨b, 0, none⟩))) (h2 : W.cell? ⟨b, 4, none⟩ = some (.slice p k c)) :
    FnGives Tryz.prog 69 #[.pointer (some ⟨xb, 0, none⟩)] #[.int .i64 x] (.bool (outB k x)) W := by
  show Calls Tryz.prog 69 #[.int .i64 x, .pointer (some ⟨xb, 0, none⟩)] W _
  by_cases hx : x < 0
  · have e := hide (show outB k x = true by rw [outB, decide_eq_true hx]; rfl)
    go_enter Tryz.func69, Tryz.ntmps69
    go_wp2
    go_ret
    exact ⟨by rw [e.out] <;> rfl, 0, rfl⟩
  · by_cases hk : (k : Int) ≤ x
    · have e := hide (show outB k x = true by rw [outB, decide_eq_true hk, Bool.or_true])
      go_enter Tryz.func69, Tryz.ntmps69
      go_wp2
      go_ret
      exact ⟨by rw [e.out] <;> rfl, 0, rfl⟩
    · have e := hide (show outB k x = false by rw [outB, decide_eq_false hk, decide_eq_false hx]; rfl)
      go_enter Tryz.func69, Tryz.ntmps69
      go_wp2
      go_ret
      exact ⟨by rw [e.out] <;> rfl, 0, rfl⟩
theorem index_nil (fv : Value) (W : World) : Calls Tryz.prog 109 #[.slice none 0 0, fv] W fun e w' => e = .returned (.int .i64 (-1)) ∧ w' = W := by
  go_enter Tryz.func109, Tryz.ntmps109
  go_wp2
  go_loopw [8] (fun i wr => i = .int .i64 0 ∧ wr = W) (fun _ _ => 0)
  case atStart => exact ⟨rfl, rfl⟩
  case round =>
    obtain ⟨rfl, rfl⟩ := hrel
    go_wp2
    go_ret
    exact ⟨rfl, rfl⟩
theorem delete_nil (fv : Value) (W : World) : Calls Tryz.prog 68 #[.slice none 0 0, fv] W fun e w' => e = .returned (.slice none 0 0) ∧ w' = W := by
  have hI := hide (index_nil fv W)
  go_enter Tryz.func68, Tryz.ntmps68
  go_wp2_with (go_at_call 109; refine hI.out.mono ?_; rintro e w' ⟨rfl, rfl⟩)
  go_ret
  exact ⟨rfl, rfl⟩
theorem delete_own {W : World} {B : Nat} {v : Value} {l : List Int} (h : IntsO W B v l) (hl : l.length ≤ 1000000) (k xb b : Nat) (p : Option Addr) (c : Nat) (hxb : xb < W.heap.size) (hb : b < W.heap.size) (hne : ∀ g, v.ownBlock = some g → xb ≠ g ∧ b ≠ g)
    (h1 : W.cell? ⟨xb, 0, none⟩ = some (.pointer (some ⟨b, 0, none⟩))) (h2 : W.cell? ⟨b, 4, none⟩ = some (.slice p k c)) :
    Calls Tryz.prog 68 #[v, .func (.func 69) #[] #[.pointer (some ⟨xb, 0, none⟩)]] W fun e w' => ∃ v', e = .returned v' ∧ IntsO w' B v' (l.filter fun x => !outB k x) ∧ ChgS (fun j => v.ownBlock = some j) W w' := by
  have eg : ∀ args w, (callFunc 69 args).run Tryz.prog w = .ok (.enter 69 args) w := enters_of Tryz.func69 (by kernel_rfl) rfl
  have hp : PredAt Tryz.prog 69 #[.pointer (some ⟨xb, 0, none⟩)] (Value.int .i64) (outB k) W :=
    fun W' x hB => gives_out k x xb b p c W' ((hB.cell (p := ⟨xb, 0, none⟩) hxb).trans h1) ((hB.cell (p := ⟨b, 4, none⟩) hb).trans h2)
  rcases h.2 with ⟨rfl, h0⟩ | ⟨g, cap, cur, rfl, hBg, hg, hn, hm, hs, ht⟩
  · obtain rfl : l = [] := List.eq_nil_of_length_eq_zero h0
    refine (delete_nil _ W).mono ?_
    rintro e w' ⟨rfl, rfl⟩
    exact ⟨_, rfl, h, ChgS.refl _ _⟩
  · have hH : Holds (Value.int .i64) W g 0 l.toArray := holds_of_block_i hg (by simpa using ht)
    obtain ⟨n1, n2⟩ := hne g rfl
    have hpo : PredOver Tryz.prog 69 #[.pointer (some ⟨xb, 0, none⟩)] (Value.int .i64) (outB k) g 0 l.toArray.size W := fun n os dk x _ => gives_out k x xb b p c _
      (by
        unfold sortWorld
        rw [cell?_grow _ _ _ (by show xb < (putRow _ _ _ _ _).heap.size; rw [size_putRow]; exact hxb), cell?_putRow_other _ _ g 0 _ _ (Or.inl n1)]
        exact h1)
      (by
        unfold sortWorld
        rw [cell?_grow _ _ _ (by show b < (putRow _ _ _ _ _).heap.size; rw [size_putRow]; exact hb), cell?_putRow_other _ _ g 0 _ _ (Or.inl n2)]
        exact h2)
    have hcon := AnyE.slices_DeleteFunc SH.laysDel (Value.int .i64) (fun _ => rfl) (outB k) 69 #[.pointer (some ⟨xb, 0, none⟩)] eg 0 Tryz.zeroValue3 g 0 cap l.toArray W hp hpo hH (by simp; omega) (by simpa using hn)
    refine Calls.mono (R := _) hcon ?_
    rintro e w' ⟨rfl, q, rfl⟩
    have hfl : (l.filter fun x => !outB k x).length ≤ l.length := List.length_filter_le _ _
    have hr := own_relaid (q := q) (k := (l.filter fun x => !outB k x).length) h (ts := (l.filter fun x => !outB k x) ++ List.replicate (l.length - (l.filter fun x => !outB k x).length) 0) (by simp; omega) (by simp)
    rw [List.take_left' rfl] at hr
    exact ⟨_, rfl, by simpa using hr.1, rfl, rfl, rfl, by simp, fun j hj hnj => by simpa using hr.2.block j hj fun e => hnj (by rw [e]; rfl)⟩
end Go.Proofs.YtllbphanfahkkaaGreatDoor

/-
  Package disk: Crash: what it returns, what it changes.
-/
namespace Go.Proofs.YtllbphanfahkkaaGreatDoor
open Go.RowKit RG
namespace RW
def tear (torn : Int) (s : ByteArray) : ByteArray := s.extract 0 (min torn.toNat s.size)
/-- one survivor of N, the m-th -/
def torn1 (torn : Int) (N m : Nat) (x : Nat × ByteArray) : Nat × ByteArray := if m + 1 = N ∧ 0 ≤ torn then (x.1, tear torn x.2) else x
def crStep (pend : List (Nat × ByteArray)) (torn : Int) (N m : Nat) (i : Int) (d : List UInt8) : List UInt8 := match pend[i.toNat]? with
  | some x => lay d (torn1 torn N m x).1 (torn1 torn N m x).2.data.toList
  | none => d
def crFold (pend : List (Nat × ByteArray)) (torn : Int) (N : Nat) : Nat → List Int → List UInt8 → List UInt8
  | _, [], d => d
  | m, i :: r, d => crFold pend torn N (m + 1) r (crStep pend torn N m i d)
/-- the survivors, in order -/
def survive (k : Nat) (keep : List Int) : List Int := (Lib.compact (keep.mergeSort fun x y => decide (x ≤ y))).filter fun x => !outB k x
def Dk.crash (S : Dk) (keep : List Int) (torn : Int) : Dk :=
  let d := crFold S.pend torn (survive S.pend.length keep).length 0 (survive S.pend.length keep) S.dur
  ⟨false, 0, d, d, []⟩
/-- the pending writes lie on the disk -/
def Dk.ok (S : Dk) (n : Nat) : Prop := ∀ x ∈ S.pend, x.1 + x.2.size ≤ n
theorem survive_in {k : Nat} {keep : List Int} {i : Int} (h : i ∈ survive k keep) : 0 ≤ i ∧ i < k := by
  have := (List.mem_filter.1 h).2
  simp [outB] at this
  omega
theorem survive_len (k : Nat) (keep : List Int) : (survive k keep).length ≤ keep.length := by
  refine Nat.le_trans (List.length_filter_le _ _) (Nat.le_trans (compact_len _) ?_)
  rw [List.length_mergeSort]
  exact Nat.le_refl _
theorem tear_size (torn : Int) (s : ByteArray) : (tear torn s).size ≤ s.size := by
  rw [tear, ByteArray.size_extract]
  omega
theorem torn1_le {torn : Int} {N m n : Nat} {x : Nat × ByteArray} (h : x.1 + x.2.size ≤ n) : (torn1 torn N m x).1 + (torn1 torn N m x).2.size ≤ n := by
  rw [torn1]
  split
  · have := tear_size torn x.2
    show x.1 + (tear torn x.2).size ≤ n
    omega
  · exact h
end RW
theorem own_next {W W' : World} {B : Nat} {e : TypeId} {k n : Nat} {v : Value} {xs : List Value} (h : W.ownsRow B e k v n xs) (hB : Below W.heap.size W W') : W'.ownsRow B e k v n xs :=
  own_keep h fun g hg => hB.block g (h.lt g hg).2
theorem wrl_oneA (x : Nat × ByteArray) : (RW.wrl x).toArray.all (·.oneCell') = true := by
  simp [RW.wrl]
  exact ⟨rfl, rfl⟩
theorem own_tch {W W' : World} {B B' b n db vb : Nat} {pv v : Value} {S : RW.Dk} {e : TypeId} {k m : Nat} {xs : List Value} (h : W.ownsRow B' e k v m xs) (hd : DiskAt W B b n db vb pv S) (hT : Tch b db vb W W') (he : e ≠ 108 ∧ e ≠ 5 ∧ e ≠ 103) : W'.ownsRow B' e k v m xs := by
  refine ⟨h.1, h.2.imp id ?_⟩
  rintro ⟨g, cap, cur, h1, h2, h3, h4⟩
  exact ⟨g, cap, cur, h1, h2, (hT.block g (Array.getElem?_eq_some_iff.1 h3).1 (blocks_ne h3 hd.row he.1) (blocks_ne h3 hd.dur he.2.1) (blocks_ne h3 hd.vis he.2.1) (fun c f hc => blocks_ne h3 hc he.2.2 rfl)).trans h3, h4⟩
theorem op_load_p {ev : Operand → Value} {o : Oper} {x : Operand} {w : World} {b i : Nat} {p : Option Addr} (ho : o.op = .load 27 x) (hx : ev x = .pointer (some ⟨b, i, none⟩)) (hc : w.cell? ⟨b, i, none⟩ = some (.pointer p)) : (execOp ev o).run Tryz.prog w = .ok (.value (.pointer p)) w := by
  unfold execOp
  rw [ho]
  simp only [hx]
  go_simp
theorem IntsB.lift {n0 n1 : Nat} {W W' : World} {sv : Value} {zs : List Int} (h : IntsB n0 W sv zs) (hB : Below n0 W W') (hn : n0 ≤ n1) : IntsB n1 W' sv zs := by
  obtain ⟨a, cap, e, h⟩ := h.below hB
  refine ⟨a, cap, e, h.imp id ?_⟩
  rintro ⟨b, off, e1, hb, hc⟩
  exact ⟨b, off, e1, Nat.lt_of_lt_of_le hb hn, hc⟩
theorem crash_nil (kv : Value) (torn : Int) (w : World) : Calls Tryz.prog 31 #[.pointer none, kv, .int .i64 torn] w fun e w' => e = .returned (.int .i64 1) ∧ Below w.heap.size w w' := by
  have hB := hide ((Below.refl w.heap.size w).alloc (Nat.le_refl _) (.cells #[.pointer none] 27))
  go_enter Tryz.func31, Tryz.ntmps31
  go_wp2
  go_ret
  exact ⟨rfl, hB.out⟩
attribute [local go_sem ↓] ldRow_write ldSt_power
set_option maxRecDepth 10000 in
set_option maxHeartbeats 2000000 in
theorem crash_any (B b n db vb : Nat) (pv : Value) (S : RW.Dk) (kv : Value) (keep : List Int) (torn : Int) (w : World) (h : DiskAt w B b n db vb pv S) (hok : S.ok n) (hkl : keep.length ≤ 1000000) (hI : IntsB w.heap.size w kv keep) :
    Calls Tryz.prog 31 #[.pointer (some ⟨b, 0, none⟩), kv, .int .i64 torn] w fun e w' => e = .returned (.int .i64 0) ∧ ∃ pv', DiskAt w' B b n db vb pv' (S.crash keep torn) ∧ Tch b db vb w w' ∧ Below B w w' := by
  obtain ⟨ap, cp, rfl⟩ := h.form
  obtain ⟨kp, hkp⟩ : ∃ k, k = S.pend.length := ⟨_, rfl⟩
  have hH := hide h
  rw [← hkp] at hH
  have hkpH := hide hkp
  obtain ⟨ak, ck, rfl, hIk⟩ := hI
  obtain ⟨nk, hnk⟩ : ∃ k, k = keep.length := ⟨_, rfl⟩
  have hIH := hide (show IntsB w.heap.size w (.slice ak nk ck) keep from ⟨ak, ck, by rw [hnk], hIk⟩)
  have hklH := hide hkl
  have hokH := hide hok
  have hVal := hide (fun W => values_any ak nk ck W)
  obtain ⟨xb, hxb⟩ : ∃ x, x = w.heap.size := ⟨_, rfl⟩
  have hA0 := hide (show Below xb w (w.alloc (.cells #[.pointer (some ⟨b, 0, none⟩)] 27)) by rw [hxb]; exact (Below.refl _ w).alloc (Nat.le_refl _) _)
  have hx0 := hide (show (w.alloc (.cells #[.pointer (some ⟨b, 0, none⟩)] 27)).heap[xb]? = some (.cells #[.pointer (some ⟨b, 0, none⟩)] 27 (0, 0)) from newAt hxb)
  have hxbH := hide hxb
  have hbl := hide (show b < xb by rw [hxb]; exact h.lt.1)
  have hle := hide (show B ≤ xb by rw [hxb]; exact Nat.le_trans h.hb (Nat.le_of_lt h.lt.1))
  rw [← hnk]
  clear h hIk hkp hkl hok hxb hnk
  go_enter Tryz.func31, Tryz.ntmps31
  go_upto_region 1 with fail
  rw [← hxbH.out]
  refine gen_w (fun W => W.heap[xb]? = some (.cells #[.pointer (some ⟨b, 0, none⟩)] 27 (0, 0)) ∧ Below xb w W) ⟨hx0.out, hA0.out⟩ ?_
  clear hx0 hA0
  rintro w1 ⟨g1, g2⟩
  have hx1 := hide g1
  have hB1 := hide g2
  have cx1 : w1.cell? ⟨xb, 0, none⟩ = some (.pointer (some ⟨b, 0, none⟩)) := cellAt g1 0
  have hlt1 := hide (Array.getElem?_eq_some_iff.1 g1).1
  clear g1 g2
  go_upto_region 4 with (first
    | (go_at_call 67; refine (hVal.out _).mono ?_; rintro e w2 ⟨rfl, hw2⟩; have hA2 := hide (show Below w1.heap.size w1 w2 by rw [hw2]; exact (Below.refl _ w1).alloc (Nat.le_refl _) _); have hk2 := hide (show w2.cell? ⟨w1.heap.size, 0, none⟩ = some (.slice ak nk ck) by rw [hw2, cellAt (newAt rfl)]; rfl); have hs2 := hide (show w1.heap.size < w2.heap.size by rw [hw2]; simp); clear hw2)
    | (go_at_call 66; refine (sorted_values w1.heap.size _ keep hklH.out w2 hs2.out hk2.out (hIH.out.lift ((hxbH.out ▸ hB1.out : Below w.heap.size w w1).trans (hA2.out.mono (hxbH.out ▸ Nat.le_of_lt hlt1.out))) (by rw [← hxbH.out]; exact Nat.le_trans (Nat.le_of_lt hlt1.out) (Nat.le_of_lt hs2.out)))).mono ?_; rintro e w3 ⟨v3, rfl, h3, hB3⟩; have h3H := hide h3; have hB3H := hide hB3; clear h3 hB3)
    | (go_at_call 65; refine (compact_own h3H.out (by rw [List.length_mergeSort]; exact hklH.out)).mono ?_; rintro e w4 ⟨v4, rfl, h4, h4o, h4c⟩; have h4H := hide h4; have h4cH := hide h4c; clear h4 h4o h4c))
  have hB24 := hide (hB3H.out.trans (⟨h4cH.out.os, h4cH.out.tape, h4cH.out.output, h4cH.out.size, fun k hk => h4cH.out.block k (Nat.lt_of_lt_of_le hk hB3H.out.size) fun e => by have := (h3H.out.lt k e).1; omega⟩ : Below w2.heap.size w3 w4))
  have hB4 := hide ((hB1.out.trans (hA2.out.mono (Nat.le_of_lt hlt1.out))).trans (hB24.out.mono (Nat.le_trans (Nat.le_of_lt hlt1.out) (Nat.le_of_lt hs2.out))) : Below xb w w4)
  have hx4 := hide ((hB24.out.block xb (Nat.lt_trans hlt1.out hs2.out)).trans ((hA2.out.block xb hlt1.out).trans hx1.out))
  have hd4 := hide (hH.out.next (hxbH.out ▸ hB4.out))
  obtain ⟨B5, hB5e⟩ : ∃ x, x = w2.heap.size := ⟨_, rfl⟩
  have hB5H := hide (show xb < B5 by rw [hB5e]; exact Nat.lt_trans hlt1.out hs2.out)
  rw [← hB5e] at h4H
  have hsz4 := hide (show B5 ≤ w4.heap.size by rw [hB5e]; exact hB24.out.size)
  have hDl := hide (delete_own h4H.out (Nat.le_trans (compact_len _) (by rw [List.length_mergeSort]; exact hklH.out)) kp xb b ap cp (Nat.lt_of_lt_of_le hB5H.out hsz4.out) (Nat.lt_of_lt_of_le (Nat.lt_trans hbl.out hB5H.out) hsz4.out)
    (fun g hg => by have h1 := (h4H.out.lt g hg).1; have h2 := hB5H.out; have h3 := hbl.out; exact ⟨by omega, by omega⟩) (cellAt hx4.out 0) (cellAt hd4.out.row 4))
  clear hB5e h3H hB3H h4cH hB24 hk2 hs2 hA2 hB1 hx1 hlt1 cx1 hIH hVal
  obtain ⟨ord, hord⟩ : ∃ o, o = RW.survive kp keep := ⟨_, rfl⟩
  rw [show (Lib.compact (keep.mergeSort fun x y => decide (x ≤ y))).filter (fun x => !outB kp x) = ord from hord.symm] at hDl
  have hordH := hide hord
  clear hord
  go_upto_region 5 with (go_at_call 68; refine hDl.out.mono ?_; rintro e w5 ⟨v5, rfl, h5, h5c⟩; have h5H := hide h5; have hB45 := hide (⟨h5c.os, h5c.tape, h5c.output, h5c.size, fun k hk => h5c.block k (Nat.lt_of_lt_of_le hk hsz4.out) fun e => by have := (h4H.out.lt k e).1; omega⟩ : Below B5 w4 w5); clear h5 h5c)
  have hB5w := hide ((hB4.out.trans (hB45.out.mono (Nat.le_of_lt hB5H.out))) : Below xb w w5)
  have hx5 := hide ((hB45.out.block xb hB5H.out).trans hx4.out)
  have hd5 := hide (hH.out.next (hxbH.out ▸ hB5w.out))
  have hnl := RW.survive_len kp keep
  rw [← hordH.out] at hnl
  have hordl := hide (show ord.length ≤ 1000000 from Nat.le_trans hnl hklH.out)
  obtain ⟨a5, c5, rfl⟩ : ∃ a c, v5 = .slice a ord.length c := by
    rcases h5H.out.2 with ⟨rfl, h0⟩ | ⟨g, cap, cur, rfl, _⟩
    · exact ⟨none, 0, by rw [h0]⟩
    · exact ⟨_, _, rfl⟩
  obtain ⟨N, hN⟩ : ∃ k, k = ord.length := ⟨_, rfl⟩
  have hNH := hide hN
  rw [← hN] at hordl
  have h5N := hide (show IntsO w5 B5 (.slice a5 N c5) ord by rw [hN]; exact h5H.out)
  obtain ⟨T, hT⟩ : ∃ T, T = RW.crFold S.pend torn N 0 ord S.dur := ⟨_, rfl⟩
  have hTH := hide hT
  rw [← hN]
  have hTc := hide (Tch.of_below (b := b) (db := db) (vb := vb) (hxbH.out ▸ hB5w.out : Below w.heap.size w w5))
  have hBw := hide (hB5w.out.mono hle.out)
  clear hDl hB4 hx4 hd4 hB45 h4H hsz4 h5H hN hT hnl hB5w
  go_wp2
  go_loopw [22] (fun i wr => ∃ m : Nat, i = .int .i64 m ∧ m ≤ N ∧ Hid (∃ dd, DiskAt wr B b n db vb (.slice ap kp cp) ⟨S.off, S.left, dd, S.vis, S.pend⟩ ∧ RW.crFold S.pend torn N m (ord.drop m) dd = T ∧ wr.heap[xb]? = some (.cells #[.pointer (some ⟨b, 0, none⟩)] 27 (0, 0)) ∧ IntsO wr B5 (.slice a5 N c5) ord ∧ Tch b db vb w wr ∧ Below B w wr)) (fun i _ => N - (intOf i).toNat)
  case atStart => exact ⟨0, rfl, Nat.zero_le _, S.dur, hd5.out, by rw [List.drop_zero]; exact hTH.out.symm, hx5.out, h5N.out, hTc.out, hBw.out⟩
  case round =>
    obtain ⟨m, rfl, hmN, hQ⟩ := hrel
    obtain ⟨dd, hd, hfold, hx, hO, hTw, hBw2⟩ := hQ.out
    have hdH := hide hd
    have hxH := hide hx
    have hOH := hide hO
    have hTwH := hide hTw
    have hBw2H := hide hBw2
    have hfoldH := hide hfold
    have cx : wr.cell? ⟨xb, 0, none⟩ = some (.pointer (some ⟨b, 0, none⟩)) := cellAt hx 0
    have c4 : wr.cell? ⟨b, 4, none⟩ = some (.slice ap kp cp) := cellAt hd.row 4
    clear hQ hd hfold hx hO hTw hBw2
    by_cases hlt : m < N
    · obtain ⟨ix, hix⟩ : ∃ x, ord[m]? = some x := ⟨_, List.getElem?_eq_getElem (by rw [← hNH.out]; exact hlt)⟩
      have hir := RW.survive_in (k := kp) (keep := keep) (by rw [← hordH.out]; exact List.mem_of_getElem? hix)
      obtain ⟨ii, rfl⟩ : ∃ ii : Nat, ix = ii := ⟨ix.toNat, by omega⟩
      have hik : ii < kp := by omega
      have hdrop := hide (show ord.drop m = (ii : Int) :: ord.drop (m + 1) by rw [List.drop_eq_getElem_cons (by rw [← hNH.out]; exact hlt), (List.getElem?_eq_some_iff.1 hix).2])
      obtain ⟨x, hxp⟩ : ∃ x, S.pend[ii]? = some x := ⟨_, List.getElem?_eq_getElem (by rw [← hkpH.out]; exact hik)⟩
      have hxpH := hide hxp
      have hbx := hide (hokH.out x (List.mem_of_getElem? hxp))
      have hrow := rowV_own (enc := RW.wrl) wrl_len (by decide) hdH.out.pend
      obtain ⟨g, o, cap, he, _, _, hrgs⟩ := hrow.at (by rintro e; rw [e] at hxp; simp at hxp)
      obtain ⟨rfl, rfl⟩ : ap = some ⟨g, o, none⟩ ∧ cp = cap := by injection he; exact ⟨by assumption, by assumption⟩
      have hrg := hrgs ii x hxp
      have hOr : RowV 1 (fun z => [Value.int .i64 z]) wr (.slice a5 N c5) ord := rowV_own (B := B5) (e := 3) (n := ord.length) (fun _ => rfl) (by decide) (by rw [intCells]; exact hOH.out)
      obtain ⟨g5, o5, cap5, he5, _, _, hrgs5⟩ := hOr.at (by rintro e; rw [e] at hix; simp at hix)
      obtain ⟨rfl, rfl⟩ : a5 = some ⟨g5, o5, none⟩ ∧ c5 = cap5 := by injection he5; exact ⟨by assumption, by assumption⟩
      have ci : wr.cell? ⟨g5, o5 + m, none⟩ = some (.int .i64 (ii : Int)) := by
        have := hrgs5 m _ hix 0 _ rfl
        simpa using this
      have hps := write_size x
      have hl2 := wrl_len x
      obtain ⟨wb, hwb⟩ : ∃ k, k = wr.heap.size := ⟨_, rfl⟩
      have hwbH := hide hwb
      have hA := hide ((Below.refl wr.heap.size wr).alloc (Nat.le_refl _) (.cells (RW.wrl x).toArray 103))
      have hg0 := hide (show (wr.alloc (.cells (RW.wrl x).toArray 103)).heap[wb]? = some (.cells (RW.wrl x).toArray 103 (0, 0)) from newAt hwb)
      have hown := hide (show ∀ k, (Value.slice (some ⟨g, o, none⟩) kp cp).ownBlock = some k → k < wb from fun k hk => by rw [hwb]; exact (hdH.out.pend.lt k hk).2)
      have hl3 := hide (show b < wb ∧ db < wb ∧ vb < wb ∧ xb < wb ∧ g5 < wb by
        rw [hwb]
        exact ⟨hdH.out.lt.1, hdH.out.lt.2.1, hdH.out.lt.2.2, (Array.getElem?_eq_some_iff.1 hxH.out).1, (hOH.out.lt g5 rfl).2⟩)
      clear hwb hxp hrow he hrgs hOr he5 hrgs5 hix hir
      go_upto_region 9 with (first
        | (refine wpList_load_mid rfl 103 (.tmp 32) rfl g (o + ii * 2) rfl (RW.wrl x) _ hrg Tryz.underlying103 rfl hps ?_)
        | (refine wpListStoreNew rfl 103 (.tmp 10) (.tmp 33) rfl (RW.wrl x).toArray rfl rfl 103 _ hps rfl (wrl_oneA x) ?_))
      rw [← hwbH.out]
      refine gen_w (fun W => W.heap[wb]? = some (.cells (RW.wrl x).toArray 103 (0, 0)) ∧ Below wb wr W) ⟨hg0.out, by rw [hwbH.out]; exact hA.out⟩ ?_
      clear hg0 hA hrg ci cx c4 hps
      rintro w6 ⟨g1, g2⟩
      have hx6 := hide g1
      have hB6 := hide g2
      have e0 : w6.cell? ⟨wb, 0, none⟩ = some (.int .i64 (x.1 : Int)) := cellAt g1 0
      have e1 : w6.cell? ⟨wb, 1, none⟩ = some (.string x.2) := cellAt g1 1
      have hfz : w6.frozen? ⟨wb, 1, none⟩ = false := by simp [World.frozen?, g1]
      clear g1 g2
      simp only [Act.put]
      obtain ⟨q, hq⟩ : ∃ q : Bool, q = decide (m + 1 = N ∧ 0 ≤ torn) := ⟨_, rfl⟩
      have hqH := hide hq
      clear hq
      have hN1 : 1 ≤ N := by omega
      have hNb : N ≤ 1000000 := hordl.out
      go_cut [42] (fun s wx => s = .bool q ∧ wx = w6)
      case first =>
        by_cases hmN1 : m + 1 = N
        · have hb : ((m : Int) == (N : Int) - 1) = true := by rw [beq_iff_eq]; omega
          by_cases ht0 : 0 ≤ torn
          · have e := hide (show q = true by rw [hqH.out, decide_eq_true ⟨hmN1, ht0⟩])
            clear hmN1
            go_wp2
            all_goals go_meet
            all_goals exact ⟨by rw [e.out] <;> rfl, rfl⟩
          · have e := hide (show q = false by rw [hqH.out, decide_eq_false fun h => ht0 h.2])
            clear hmN1
            go_wp2
            all_goals go_meet
            all_goals exact ⟨by rw [e.out] <;> rfl, rfl⟩
        · have hb : ((m : Int) == (N : Int) - 1) = false := by rw [beq_eq_false_iff_ne]; omega
          have e := hide (show q = false by rw [hqH.out, decide_eq_false fun h => hmN1 h.1])
          clear hmN1
          go_wp2
          all_goals go_meet
          all_goals exact ⟨by rw [e.out] <;> rfl, rfl⟩
      case rest =>
      obtain ⟨rfl, hwx⟩ := hcut
      have hwx' := hwx.symm
      subst hwx'
      cases q
      · have ht1 := hide (show RW.torn1 torn N m x = x by rw [RW.torn1, if_neg (of_decide_eq_false hqH.out.symm)])
        obtain ⟨w7, hw7⟩ : ∃ w, w = w6 := ⟨_, rfl⟩
        subst hw7
        have hx7 := hx6
        have hd7 := hide (hdH.out.next (hwbH.out ▸ hB6.out))
        have hbx7 := hide ((hB6.out.block xb hl3.out.2.2.2.1).trans hxH.out)
        have hO7 := hide (own_next hOH.out (hwbH.out ▸ hB6.out))
        have hT7 := hide (hTwH.out.trans (Tch.of_below (hwbH.out ▸ hB6.out)))
        have hB7 := hide (show B ≤ w7.heap.size from Nat.le_trans hd7.out.hb (Nat.le_of_lt hd7.out.lt.1))
        have hBw7 := hide (hBw2H.out.trans (hB6.out.mono (Nat.le_trans hdH.out.hb (Nat.le_of_lt hl3.out.1))))
        have hbnd := hbx
        have hnb := hide (show wb ≠ db ∧ xb ≠ db from ⟨Ne.symm (Nat.ne_of_lt hl3.out.2.1), blocks_ne hbx7.out hd7.out.dur (by decide)⟩)
        clear e0 e1 hfz
        go_upto_region 11 with fail
        have hOn := hide (fun W (h : DiskAt W B b n db vb (.slice (some ⟨g, o, none⟩) kp cp) ⟨S.off, S.left, dd, S.vis, S.pend⟩) => onto_any x.1 x.2 db n dd W h.dur h.ld hbnd.out h.hn)
        refine wp_region_k (fun _ W => W.heap[wb]? = some (.cells (RW.wrl x).toArray 103 (0, 0)) ∧ W.heap[xb]? = some (.cells #[.pointer (some ⟨b, 0, none⟩)] 27 (0, 0)) ∧ W.heap[b]? = some (.cells (RW.dkl S.off (S.left : Int) (.slice (some ⟨db, 0, none⟩) n n) (.slice (some ⟨vb, 0, none⟩) n n) (.slice (some ⟨g, o, none⟩) kp cp)) 108 (0, 0))) (fun W => DiskAt W B b n db vb (.slice (some ⟨g, o, none⟩) kp cp) ⟨S.off, S.left, dd, S.vis, S.pend⟩ ∧ Below w7.heap.size w7 W) [5] (.op 0 (.op 1 (.op 2 (.op 3 (.op 4 (.op 5 .nil)))))) (by kernel_rfl) (by kernel_rfl) (by rfl) (by kernel_rfl) ⟨hx7.out, hbx7.out, hd7.out.row⟩ ⟨hd7.out.next (Below.refl _ _).drew, (Below.refl _ _).drew⟩ ?_
        refine k_val (.agg (RW.wrl x).toArray) (by apply opN; repeat' (first | apply OpAt.z | apply OpAt.s)) (by rfl) (by rfl) (fun _ W hS => op_load_w rfl rfl (write_ldAt hS.1)) ?_
        simp only [Act.put, List.setIfInBounds_toArray, List.set_cons_zero, List.set_cons_succ]
        refine k_val (.pointer (some ⟨b, 0, none⟩)) (by apply opN; repeat' (first | apply OpAt.z | apply OpAt.s)) (by rfl) (by rfl) (fun _ W hS => op_load_p rfl rfl (cellAt hS.2.1 0)) ?_
        simp only [Act.put, List.setIfInBounds_toArray, List.set_cons_zero, List.set_cons_succ]
        refine k_val (.pointer (some ⟨b, 0, none⟩)) (by apply opN; repeat' (first | apply OpAt.z | apply OpAt.s)) (by rfl) (by rfl) (fun _ W hS => op_nc rfl rfl) ?_
        simp only [Act.put, List.setIfInBounds_toArray, List.set_cons_zero, List.set_cons_succ]
        refine k_val (.pointer (some ⟨b, 2, none⟩)) (by apply opN; repeat' (first | apply OpAt.z | apply OpAt.s)) (by rfl) (by rfl) (fun _ W hS => op_fa_d (i := 1) (by decide) rfl rfl rfl) ?_
        simp only [Act.put, List.setIfInBounds_toArray, List.set_cons_zero, List.set_cons_succ]
        refine k_val (.slice (some ⟨db, 0, none⟩) n n) (by apply opN; repeat' (first | apply OpAt.z | apply OpAt.s)) (by rfl) (by rfl) (fun _ W hS => op_load_by rfl rfl (cellAt hS.2.2 2)) ?_
        simp only [Act.put, List.setIfInBounds_toArray, List.set_cons_zero, List.set_cons_succ]
        refine k_step (fun K' u => K' = fun W => DiskAt W B b n db vb (.slice (some ⟨g, o, none⟩) kp cp) ⟨S.off, S.left, RW.lay dd x.1 x.2.data.toList, S.vis, S.pend⟩ ∧ Tch b db vb w7 W ∧ Below B w7 W) (by apply opN; repeat' (first | apply OpAt.z | apply OpAt.s)) (by rfl) (by rfl) (by rfl) (fun W hC hK => ?_) ?_
        · refine op_x2 rfl rfl rfl rfl (fun _ _ => rfl) ((hOn.out W hK.1).mono ?_)
          rintro e W' ⟨⟨v, rfl⟩, h1, h2⟩
          obtain ⟨k1, k2, k3⟩ := hK.1.durChg h1 h2 (by rw [lay_len (by rw [show dd.length = n from hK.1.ld, Array.length_toList]; exact hbnd.out)]; exact hK.1.ld)
          exact ⟨_, rfl, ⟨(h2.block wb (Array.getElem?_eq_some_iff.1 hC.1).1 hnb.out.1).trans hC.1, (h2.block xb (Array.getElem?_eq_some_iff.1 hC.2.1).1 hnb.out.2).trans hC.2.1, k1.row⟩, _, ⟨k1, (Tch.of_below hK.2).trans k2, (hK.2.mono hB7.out).trans k3⟩, rfl⟩
        rintro _ _ rfl
        simp only [Act.put, List.setIfInBounds_toArray, List.set_cons_zero, List.set_cons_succ]
        refine k_nil ?_
        intro W hC hK
        have hKH := hide hK
        have hBX := hide hC.2.1
        clear hC hK hOn
        go_wp2
        go_roundw
        case rel =>
          obtain ⟨k1, k2, k3⟩ := hKH.out
          refine ⟨m + 1, by go_num, by omega, RW.lay dd x.1 x.2.data.toList, k1, ?_, hBX.out, own_tch hO7.out hd7.out k2 (by decide), hT7.out.trans k2, hBw7.out.trans k3⟩
          have h1 := hfoldH.out
          rw [hdrop.out, RW.crFold, RW.crStep, Int.toNat_natCast, hxpH.out] at h1
          simp only [ht1.out] at h1
          exact h1
        case measure => simp [intOf]; omega
      · have hqt := of_decide_eq_true hqH.out.symm
        obtain ⟨tn, rfl⟩ : ∃ tn : Nat, torn = tn := ⟨torn.toNat, by omega⟩
        obtain ⟨kx, hkx⟩ : ∃ k, k = min tn x.2.size := ⟨_, rfl⟩
        have hkx1 : kx ≤ x.2.size := by omega
        have hkm : min (tn : Int) (x.2.size : Int) = (kx : Int) := by omega
        obtain ⟨y, hy⟩ : ∃ y : Nat × ByteArray, y = (x.1, x.2.extract 0 kx) := ⟨_, rfl⟩
        have ht1 := hide (show RW.torn1 (tn : Int) N m x = y by rw [RW.torn1, if_pos hqt, RW.tear, hy, hkx, Int.toNat_natCast])
        have hys : y.2 = x.2.extract 0 kx := by rw [hy]
        have hy1 : y.1 = x.1 := by rw [hy]
        have hbnd := hide (show y.1 + y.2.size ≤ n by rw [hys, hy1, ByteArray.size_extract]; have := hbx.out; omega)
        have hl2y := wrl_len y
        have hg7 := hide (show (w6.setCell ⟨wb, 1, none⟩ (.string (x.2.extract 0 kx))).heap[wb]? = some (.cells (RW.wrl y).toArray 103 (0, 0)) by rw [hy]; exact (heap_setCell_same _ _ _ _ _ _ hx6.out).trans rfl)
        have hB7s := hide (show Below wb wr (w6.setCell ⟨wb, 1, none⟩ (.string (x.2.extract 0 kx))) from hB6.out.setCell (p := ⟨wb, 1, none⟩) (Nat.le_refl _) _)
        clear hkx hqt hy hys hy1
        go_upto_region 11 with fail
        refine gen_w (fun W => W.heap[wb]? = some (.cells (RW.wrl y).toArray 103 (0, 0)) ∧ Below wb wr W) ⟨hg7.out, hB7s.out⟩ ?_
        clear hg7 hB7s e0 e1 hfz hB6 hx6
        rintro w7 ⟨g1, g2⟩
        have hx7 := hide g1
        have hB6 := hide g2
        clear g1 g2
        have hd7 := hide (hdH.out.next (hwbH.out ▸ hB6.out))
        have hbx7 := hide ((hB6.out.block xb hl3.out.2.2.2.1).trans hxH.out)
        have hO7 := hide (own_next hOH.out (hwbH.out ▸ hB6.out))
        have hT7 := hide (hTwH.out.trans (Tch.of_below (hwbH.out ▸ hB6.out)))
        have hB7 := hide (show B ≤ w7.heap.size from Nat.le_trans hd7.out.hb (Nat.le_of_lt hd7.out.lt.1))
        have hBw7 := hide (hBw2H.out.trans (hB6.out.mono (Nat.le_trans hdH.out.hb (Nat.le_of_lt hl3.out.1))))
        have hnb := hide (show wb ≠ db ∧ xb ≠ db from ⟨Ne.symm (Nat.ne_of_lt hl3.out.2.1), blocks_ne hbx7.out hd7.out.dur (by decide)⟩)
        have hOn := hide (fun W (h : DiskAt W B b n db vb (.slice (some ⟨g, o, none⟩) kp cp) ⟨S.off, S.left, dd, S.vis, S.pend⟩) => onto_any y.1 y.2 db n dd W h.dur h.ld hbnd.out h.hn)
        refine wp_region_k (fun _ W => W.heap[wb]? = some (.cells (RW.wrl y).toArray 103 (0, 0)) ∧ W.heap[xb]? = some (.cells #[.pointer (some ⟨b, 0, none⟩)] 27 (0, 0)) ∧ W.heap[b]? = some (.cells (RW.dkl S.off (S.left : Int) (.slice (some ⟨db, 0, none⟩) n n) (.slice (some ⟨vb, 0, none⟩) n n) (.slice (some ⟨g, o, none⟩) kp cp)) 108 (0, 0))) (fun W => DiskAt W B b n db vb (.slice (some ⟨g, o, none⟩) kp cp) ⟨S.off, S.left, dd, S.vis, S.pend⟩ ∧ Below w7.heap.size w7 W) [5] (.op 0 (.op 1 (.op 2 (.op 3 (.op 4 (.op 5 .nil)))))) (by kernel_rfl) (by kernel_rfl) (by rfl) (by kernel_rfl) ⟨hx7.out, hbx7.out, hd7.out.row⟩ ⟨hd7.out.next (Below.refl _ _).drew, (Below.refl _ _).drew⟩ ?_
        refine k_val (.agg (RW.wrl y).toArray) (by apply opN; repeat' (first | apply OpAt.z | apply OpAt.s)) (by rfl) (by rfl) (fun _ W hS => op_load_w rfl rfl (write_ldAt hS.1)) ?_
        simp only [Act.put, List.setIfInBounds_toArray, List.set_cons_zero, List.set_cons_succ]
        refine k_val (.pointer (some ⟨b, 0, none⟩)) (by apply opN; repeat' (first | apply OpAt.z | apply OpAt.s)) (by rfl) (by rfl) (fun _ W hS => op_load_p rfl rfl (cellAt hS.2.1 0)) ?_
        simp only [Act.put, List.setIfInBounds_toArray, List.set_cons_zero, List.set_cons_succ]
        refine k_val (.pointer (some ⟨b, 0, none⟩)) (by apply opN; repeat' (first | apply OpAt.z | apply OpAt.s)) (by rfl) (by rfl) (fun _ W hS => op_nc rfl rfl) ?_
        simp only [Act.put, List.setIfInBounds_toArray, List.set_cons_zero, List.set_cons_succ]
        refine k_val (.pointer (some ⟨b, 2, none⟩)) (by apply opN; repeat' (first | apply OpAt.z | apply OpAt.s)) (by rfl) (by rfl) (fun _ W hS => op_fa_d (i := 1) (by decide) rfl rfl rfl) ?_
        simp only [Act.put, List.setIfInBounds_toArray, List.set_cons_zero, List.set_cons_succ]
        refine k_val (.slice (some ⟨db, 0, none⟩) n n) (by apply opN; repeat' (first | apply OpAt.z | apply OpAt.s)) (by rfl) (by rfl) (fun _ W hS => op_load_by rfl rfl (cellAt hS.2.2 2)) ?_
        simp only [Act.put, List.setIfInBounds_toArray, List.set_cons_zero, List.set_cons_succ]
        refine k_step (fun K' u => K' = fun W => DiskAt W B b n db vb (.slice (some ⟨g, o, none⟩) kp cp) ⟨S.off, S.left, RW.lay dd y.1 y.2.data.toList, S.vis, S.pend⟩ ∧ Tch b db vb w7 W ∧ Below B w7 W) (by apply opN; repeat' (first | apply OpAt.z | apply OpAt.s)) (by rfl) (by rfl) (by rfl) (fun W hC hK => ?_) ?_
        · refine op_x2 rfl rfl rfl rfl (fun _ _ => rfl) ((hOn.out W hK.1).mono ?_)
          rintro e W' ⟨⟨v, rfl⟩, h1, h2⟩
          obtain ⟨k1, k2, k3⟩ := hK.1.durChg h1 h2 (by rw [lay_len (by rw [show dd.length = n from hK.1.ld, Array.length_toList]; exact hbnd.out)]; exact hK.1.ld)
          exact ⟨_, rfl, ⟨(h2.block wb (Array.getElem?_eq_some_iff.1 hC.1).1 hnb.out.1).trans hC.1, (h2.block xb (Array.getElem?_eq_some_iff.1 hC.2.1).1 hnb.out.2).trans hC.2.1, k1.row⟩, _, ⟨k1, (Tch.of_below hK.2).trans k2, (hK.2.mono hB7.out).trans k3⟩, rfl⟩
        rintro _ _ rfl
        simp only [Act.put, List.setIfInBounds_toArray, List.set_cons_zero, List.set_cons_succ]
        refine k_nil ?_
        intro W hC hK
        have hKH := hide hK
        have hBX := hide hC.2.1
        clear hC hK hOn
        go_wp2
        go_roundw
        case rel =>
          obtain ⟨k1, k2, k3⟩ := hKH.out
          refine ⟨m + 1, by go_num, by omega, RW.lay dd y.1 y.2.data.toList, k1, ?_, hBX.out, own_tch hO7.out hd7.out k2 (by decide), hT7.out.trans k2, hBw7.out.trans k3⟩
          have h1 := hfoldH.out
          rw [hdrop.out, RW.crFold, RW.crStep, Int.toNat_natCast, hxpH.out] at h1
          simp only [ht1.out] at h1
          exact h1
        case measure => simp [intOf]; omega
    · obtain rfl : m = N := by omega
      have hdT : dd = T := by
        have h1 := hfoldH.out
        rw [List.drop_eq_nil_iff.2 (by rw [← hNH.out]; exact Nat.le_refl _), RW.crFold] at h1
        exact h1
      subst hdT
      obtain ⟨wo, hwo⟩ : ∃ wo, wo = wr := ⟨_, rfl⟩
      subst hwo
      have hSt := hide (fun W (h : DiskAt W B b n db vb (.slice ap kp cp) ⟨S.off, S.left, dd, S.vis, S.pend⟩) => settle_any b db vb n S.off S.left _ _ (.slice ap kp cp) dd S.vis S.pend B W h.row h.dur h.vis h.ld h.lv h.pend h.ne)
      clear hfoldH hOH
      go_upto_region 13 with fail
      refine wp_region_k (fun g W => W.heap[xb]? = some (.cells #[.pointer (some ⟨b, 0, none⟩)] 27 (0, 0)) ∧ (9 ∉ g → W.heap[b]? = some (.cells (RW.dkl S.off (S.left : Int) (.slice (some ⟨db, 0, none⟩) n n) (.slice (some ⟨vb, 0, none⟩) n n) (.slice ap kp cp)) 108 (0, 0)))) (fun W => DiskAt W B b n db vb (.slice ap kp cp) ⟨S.off, S.left, dd, S.vis, S.pend⟩ ∧ Below wo.heap.size wo W) [9] (.op 0 (.op 1 (.op 2 (.op 3 (.op 4 (.op 5 (.op 6 (.op 7 (.op 8 (.op 9 .nil)))))))))) (by kernel_rfl) (by kernel_rfl) (by rfl) (by kernel_rfl) ⟨hxH.out, fun _ => hdH.out.row⟩ ⟨hdH.out.next (Below.refl _ _).drew, (Below.refl _ _).drew⟩ ?_
      refine k_val (.pointer (some ⟨b, 0, none⟩)) (by apply opN; repeat' (first | apply OpAt.z | apply OpAt.s)) (by rfl) (by rfl) (fun _ W hS => op_load_p rfl rfl (cellAt hS.1 0)) ?_
      simp only [Act.put, List.setIfInBounds_toArray, List.set_cons_zero, List.set_cons_succ]
      refine k_val (.pointer (some ⟨b, 0, none⟩)) (by apply opN; repeat' (first | apply OpAt.z | apply OpAt.s)) (by rfl) (by rfl) (fun _ W hS => op_load_p rfl rfl (cellAt hS.1 0)) ?_
      simp only [Act.put, List.setIfInBounds_toArray, List.set_cons_zero, List.set_cons_succ]
      refine k_val (.pointer (some ⟨b, 0, none⟩)) (by apply opN; repeat' (first | apply OpAt.z | apply OpAt.s)) (by rfl) (by rfl) (fun _ W hS => op_nc rfl rfl) ?_
      simp only [Act.put, List.setIfInBounds_toArray, List.set_cons_zero, List.set_cons_succ]
      refine k_val (.pointer (some ⟨b, 2, none⟩)) (by apply opN; repeat' (first | apply OpAt.z | apply OpAt.s)) (by rfl) (by rfl) (fun _ W hS => op_fa_d (i := 1) (by decide) rfl rfl rfl) ?_
      simp only [Act.put, List.setIfInBounds_toArray, List.set_cons_zero, List.set_cons_succ]
      refine k_bef 9 (.slice (some ⟨db, 0, none⟩) n n) (by apply opN; repeat' (first | apply OpAt.z | apply OpAt.s)) (by rfl) (by rfl) (by decide +kernel) (by rfl) (fun g W hg hS => op_load_by rfl rfl (cellAt (hS.2 hg) 2)) ?_
      simp only [Act.put, List.setIfInBounds_toArray, List.set_cons_zero, List.set_cons_succ]
      refine k_val (.pointer (some ⟨b, 0, none⟩)) (by apply opN; repeat' (first | apply OpAt.z | apply OpAt.s)) (by rfl) (by rfl) (fun _ W hS => op_load_p rfl rfl (cellAt hS.1 0)) ?_
      simp only [Act.put, List.setIfInBounds_toArray, List.set_cons_zero, List.set_cons_succ]
      refine k_val (.pointer (some ⟨b, 0, none⟩)) (by apply opN; repeat' (first | apply OpAt.z | apply OpAt.s)) (by rfl) (by rfl) (fun _ W hS => op_nc rfl rfl) ?_
      simp only [Act.put, List.setIfInBounds_toArray, List.set_cons_zero, List.set_cons_succ]
      refine k_val (.pointer (some ⟨b, 3, none⟩)) (by apply opN; repeat' (first | apply OpAt.z | apply OpAt.s)) (by rfl) (by rfl) (fun _ W hS => op_fa_d (i := 2) (by decide) rfl rfl rfl) ?_
      simp only [Act.put, List.setIfInBounds_toArray, List.set_cons_zero, List.set_cons_succ]
      refine k_bef 9 (.slice (some ⟨vb, 0, none⟩) n n) (by apply opN; repeat' (first | apply OpAt.z | apply OpAt.s)) (by rfl) (by rfl) (by decide +kernel) (by rfl) (fun g W hg hS => op_load_by rfl rfl (cellAt (hS.2 hg) 3)) ?_
      simp only [Act.put, List.setIfInBounds_toArray, List.set_cons_zero, List.set_cons_succ]
      refine k_step (fun K' u => K' = fun W => ∃ pv', DiskAt W B b n db vb pv' ⟨S.off, S.left, dd, dd, []⟩ ∧ Tch b db vb w W ∧ Below B w W) (by apply opN; repeat' (first | apply OpAt.z | apply OpAt.s)) (by rfl) (by rfl) (by rfl) (fun W hC hK => ?_) ?_
      · refine op_x3 rfl rfl rfl rfl rfl (fun _ _ => rfl) ((hSt.out W hK.1).mono ?_)
        rintro e W' ⟨⟨v, rfl⟩, pv', h1, h2, h3, _, h5⟩
        obtain ⟨k1, k2, k3⟩ := hK.1.settled_v h1 h2 h3 h5
        refine ⟨_, rfl, ⟨(h5.block xb (Array.getElem?_eq_some_iff.1 hC.1).1 ?_).trans hC.1, fun h => absurd (by simp) h⟩, _, ⟨pv', k1, (hTwH.out.trans (Tch.of_below hK.2)).trans k2, (hBw2H.out.trans (hK.2.mono (Nat.le_trans hdH.out.hb (Nat.le_of_lt hdH.out.lt.1)))).trans k3⟩, rfl⟩
        rintro (e | e | e)
        · exact blocks_ne hC.1 hK.1.row (by decide) e
        · exact blocks_ne hC.1 hK.1.vis (by decide) e
        · rcases hK.1.pend.2 with ⟨e', _⟩ | ⟨g', cap', cur', e', _, hh, _⟩
          · rw [e'] at e; cases e
          · rw [e'] at e; cases e; exact blocks_ne hC.1 hh (by decide) rfl
      rintro _ _ rfl
      simp only [Act.put, List.setIfInBounds_toArray, List.set_cons_zero, List.set_cons_succ]
      refine k_nil ?_
      intro W hC hK
      obtain ⟨pv', k1, k2, k3⟩ := hK
      have cx2 : W.cell? ⟨xb, 0, none⟩ = some (.pointer (some ⟨b, 0, none⟩)) := cellAt hC.1 0
      have hst : (stRow 106 (.pointer (some ⟨b, 0, none⟩)) (.agg #[.bool false, .int .i64 0])).run Tryz.prog W = .ok () (W.setCells b 0 [.bool false, .int .i64 0]) :=
        stRow_mid (cells := #[.bool false, .int .i64 0]) (fun j hj => by
          have hj2 : j < 2 := hj
          rw [Nat.zero_add]
          refine ⟨?_, by simp [World.frozen?, k1.row]⟩
          rw [cellAt k1.row]
          rcases j with _ | _ | j
          · rfl
          · rfl
          · omega) (by kernel_rfl) (by simp; exact ⟨rfl, rfl⟩)
      have k1H := hide k1
      have k2H := hide k2
      have k3H := hide k3
      clear hC hSt k1 k2 k3
      go_wp2
      go_ret
      have hrow := setCells_heap [.bool false, .int .i64 0] W b 0 _ _ _ k1H.out.row
      have hgr := setCells_grown [.bool false, .int .i64 0] W b 0
      have hch : Chg b W (W.setCells b 0 [.bool false, .int .i64 0]) := ⟨hgr.os, hgr.tape, hgr.output, hgr.size, fun j hj hne => hgr.block j hj fun e => hne (Option.some.inj e)⟩
      obtain ⟨m1, m2, m3⟩ := k1H.out.rowChg (off := false) (left := 0) (hrow.trans rfl) hch (by decide)
      refine ⟨rfl, pv', ?_, k2H.out.trans m2, k3H.out.trans m3⟩
      have hcr : S.crash keep torn = ⟨false, 0, dd, dd, []⟩ := by
        rw [RW.Dk.crash, ← hkpH.out, ← hordH.out, ← hNH.out, ← hTH.out]
      rw [hcr]
      exact m1
end Go.Proofs.YtllbphanfahkkaaGreatDoor

/-
  Survivors of a crash: plain Lean, no condition beyond each theorem's own premises.
-/
namespace Go.Proofs.YtllbphanfahkkaaGreatDoor.RW
theorem asc_mem_ext : ∀ {l m : List Int}, l.Pairwise (· < ·) → m.Pairwise (· < ·) → (∀ x, x ∈ l ↔ x ∈ m) → l = m
  | [], [], _, _, _ => rfl
  | [], y :: m, _, _, h => absurd ((h y).2 (List.mem_cons_self ..)) (by simp)
  | x :: l, [], _, _, h => absurd ((h x).1 (List.mem_cons_self ..)) (by simp)
  | x :: l, y :: m, hl, hm, h => by
    rw [List.pairwise_cons] at hl hm
    have hxy : x = y := by
      have h1 := (h x).1 (List.mem_cons_self ..)
      have h2 := (h y).2 (List.mem_cons_self ..)
      rcases List.mem_cons.1 h1 with e | e
      · exact e
      · rcases List.mem_cons.1 h2 with e' | e'
        · exact e'.symm
        · have := hl.1 y e'
          have := hm.1 x e
          omega
    subst hxy
    congr 1
    refine asc_mem_ext hl.2 hm.2 fun z => ?_
    have hz := h z
    rw [List.mem_cons, List.mem_cons] at hz
    constructor
    · intro hzl
      have := hl.1 z hzl
      exact (hz.1 (.inr hzl)).resolve_left (by omega)
    · intro hzm
      have := hm.1 z hzm
      exact (hz.2 (.inr hzm)).resolve_left (by omega)
theorem sort_asc {keep asc : List Int} (hp : keep.Perm asc) (hs : asc.Pairwise (· < ·)) : keep.mergeSort (fun x y => decide (x ≤ y)) = asc := by
  have hperm := (List.mergeSort_perm keep (fun x y => decide (x ≤ y))).trans hp
  have hle := List.pairwise_mergeSort (le := fun x y : Int => decide (x ≤ y)) (by intro a b c h1 h2; simp at *; omega) (by intro a b; simp; omega) keep
  have hnd : asc.Nodup := hs.imp (by intro a b h e; omega)
  have hnd2 := hperm.nodup_iff.2 hnd
  refine asc_mem_ext ?_ hs fun x => hperm.mem_iff
  have h2 := List.Pairwise.and hle hnd2
  exact h2.imp (by intro a b h; have h1 := h.1; simp at h1; have h2 := h.2; omega)
theorem compact_asc {asc : List Int} (hs : asc.Pairwise (· < ·)) : Lib.compact asc = asc := by
  have hk : ∀ j, j < asc.toArray.size → Lib.keeps asc.toArray j = true := by
    intro j hj
    have hj' : j < asc.length := by simpa using hj
    unfold Lib.keeps
    rw [decide_eq_true_eq]
    cases j with
    | zero => exact .inl rfl
    | succ i =>
      right
      have h1 := List.pairwise_iff_getElem.1 hs i (i + 1) (by omega) hj' (by omega)
      rw [Nat.add_sub_cancel, getElem!_pos asc.toArray (i + 1) (by simpa using hj'), getElem!_pos asc.toArray i (by simp; omega)]
      simp
      omega
  unfold Lib.compact
  rw [Lib.compactUpTo_all _ _ (fun j hj => hk j (by simpa using hj))]
  apply List.ext_getElem
  · simp
  · intro i h1 h2
    have h3 : i < asc.toArray.size := by simpa using h2
    simp only [List.getElem_map, List.getElem_range]
    rw [getElem!_pos asc.toArray i h3]
    simp
theorem survive_asc {k : Nat} {keep asc : List Int} (hp : keep.Perm asc) (hs : asc.Pairwise (· < ·)) (hr : ∀ x ∈ asc, 0 ≤ x ∧ x < k) : survive k keep = asc := by
  unfold survive
  rw [sort_asc hp hs, compact_asc hs]
  refine List.filter_eq_self.2 fun x hx => ?_
  have := hr x hx
  simp [outB]
  omega
/-- 0 .. k-1 -/
def rangeL (k : Nat) : List Int := (List.range k).map fun i : Nat => (i : Int)
theorem rangeL_succ (k : Nat) : rangeL (k + 1) = rangeL k ++ [(k : Int)] := by simp [rangeL, List.range_succ]
theorem rangeL_len (k : Nat) : (rangeL k).length = k := by simp [rangeL]
theorem rangeL_asc (k : Nat) : (rangeL k).Pairwise (· < ·) := by
  unfold rangeL
  rw [List.pairwise_map]
  exact List.pairwise_lt_range.imp (by intro a b h; omega)
theorem survive_range (k : Nat) : survive k (rangeL k) = rangeL k := survive_asc (List.Perm.refl _) (rangeL_asc k) (by
  intro x hx
  obtain ⟨i, hi, rfl⟩ := List.mem_map.1 hx
  rw [List.mem_range] at hi
  omega)
/-- all writes, one after the other -/
def replay : List (Nat × ByteArray) → List UInt8 → List UInt8
  | [], d => d
  | x :: r, d => replay r (lay d x.1 x.2.data.toList)
theorem replay_snoc : ∀ (p : List (Nat × ByteArray)) (x : Nat × ByteArray) (d : List UInt8), replay (p ++ [x]) d = lay (replay p d) x.1 x.2.data.toList
  | [], _, _ => rfl
  | y :: p, x, d => replay_snoc p x _
theorem fold_all (pend : List (Nat × ByteArray)) (torn : Int) (ht : torn < 0) (N : Nat) : ∀ (q m : Nat) (d : List UInt8), m + q = pend.length → crFold pend torn N m ((rangeL pend.length).drop m) d = replay (pend.drop m) d
  | 0, m, d, h => by
    rw [List.drop_eq_nil_iff.2 (by rw [rangeL_len]; omega), List.drop_eq_nil_iff.2 (by omega)]
    rfl
  | q + 1, m, d, h => by
    have hm : m < pend.length := by omega
    rw [List.drop_eq_getElem_cons (by rw [rangeL_len]; exact hm), List.drop_eq_getElem_cons hm, crFold, replay]
    have hg : (rangeL pend.length)[m]'(by rw [rangeL_len]; exact hm) = (m : Int) := by simp [rangeL]
    rw [hg, crStep, Int.toNat_natCast, List.getElem?_eq_getElem hm]
    simp only [torn1, if_neg (show ¬ (m + 1 = N ∧ 0 ≤ torn) by omega)]
    exact fold_all pend torn ht N q (m + 1) _ (by omega)
theorem crash_all (S : Dk) (torn : Int) (ht : torn < 0) : S.crash (rangeL S.pend.length) torn = ⟨false, 0, replay S.pend S.dur, replay S.pend S.dur, []⟩ := by
  rw [Dk.crash, survive_range]
  have := fold_all S.pend torn ht (rangeL S.pend.length).length S.pend.length 0 S.dur (by omega)
  rw [List.drop_zero, List.drop_zero] at this
  simp only [this]
end Go.Proofs.YtllbphanfahkkaaGreatDoor.RW

/-
  Which writes survive, as the law reckons it: plain Lean, no condition beyond each theorem's own premises.
-/
namespace Go.Proofs.YtllbphanfahkkaaGreatDoor.RW
/-- the numbers below j that are kept, ascending -/
def ascK (kp : Nat → Bool) : Nat → List Int
  | 0 => []
  | j + 1 => if kp j then ascK kp j ++ [(j : Int)] else ascK kp j
/-- .. as the law puts them together: the last one first -/
def numK (kp : Nat → Bool) : Nat → List Int
  | 0 => []
  | j + 1 => if kp j then (j : Int) :: numK kp j else numK kp j
/-- the last number below j that is kept, or -1 -/
def lastK (kp : Nat → Bool) : Nat → Int
  | 0 => -1
  | j + 1 => if kp j then (j : Int) else lastK kp j
theorem numK_rev (kp : Nat → Bool) : ∀ j, numK kp j = (ascK kp j).reverse
  | 0 => rfl
  | j + 1 => by
    rw [numK, ascK]
    cases kp j
    · exact numK_rev kp j
    · rw [if_pos rfl, if_pos rfl, List.reverse_append, numK_rev kp j]; rfl
theorem ascK_in (kp : Nat → Bool) : ∀ j, ∀ x ∈ ascK kp j, 0 ≤ x ∧ x < j
  | 0, x, h => by cases h
  | j + 1, x, h => by
    rw [ascK] at h
    cases hk : kp j
    · rw [hk, if_neg Bool.false_ne_true] at h
      have := ascK_in kp j x h
      omega
    · rw [hk, if_pos rfl] at h
      rcases List.mem_append.1 h with h | h
      · have := ascK_in kp j x h
        omega
      · simp at h
        omega
theorem ascK_asc (kp : Nat → Bool) : ∀ j, (ascK kp j).Pairwise (· < ·)
  | 0 => List.Pairwise.nil
  | j + 1 => by
    rw [ascK]
    cases kp j
    · exact ascK_asc kp j
    · rw [if_pos rfl, List.pairwise_append]
      refine ⟨ascK_asc kp j, List.pairwise_singleton _ _, fun x hx y hy => ?_⟩
      have := ascK_in kp j x hx
      simp at hy
      omega
theorem ascK_le (kp : Nat → Bool) (j : Nat) : ∀ d, (ascK kp j).length ≤ (ascK kp (j + d)).length
  | 0 => Nat.le_refl _
  | d + 1 => by
    refine Nat.le_trans (ascK_le kp j d) ?_
    rw [← Nat.add_assoc, ascK]
    split <;> simp
theorem ascK_len (kp : Nat → Bool) : ∀ j, (ascK kp j).length ≤ j
  | 0 => Nat.le_refl _
  | j + 1 => by
    have := ascK_len kp j
    rw [ascK]
    split
    · simp; omega
    · omega
theorem numK_len (kp : Nat → Bool) (j : Nat) : (numK kp j).length ≤ j := by
  rw [numK_rev, List.length_reverse]
  exact ascK_len kp j
theorem lastK_lt (kp : Nat → Bool) : ∀ j, lastK kp j < j
  | 0 => by simp [lastK]
  | j + 1 => by
    have := lastK_lt kp j
    rw [lastK]
    split <;> omega
/-- a kept number is the last survivor exactly if it is the last one kept -/
theorem lastK_iff (kp : Nat → Bool) (j : Nat) (hj : kp j = true) : ∀ d, ((ascK kp j).length + 1 = (ascK kp (j + 1 + d)).length ↔ (j : Int) = lastK kp (j + 1 + d))
  | 0 => by
    rw [Nat.add_zero, ascK, lastK, if_pos hj, if_pos hj]
    simp
  | d + 1 => by
    have ih := lastK_iff kp j hj d
    have hm := ascK_le kp (j + 1) d
    have hs : (ascK kp (j + 1)).length = (ascK kp j).length + 1 := by rw [ascK, if_pos hj]; simp
    rw [← Nat.add_assoc, ascK, lastK]
    cases kp (j + 1 + d)
    · exact ih
    · rw [if_pos rfl, if_pos rfl, List.length_append, List.length_singleton]
      constructor
      · intro h; omega
      · intro h; omega
theorem crFold_snoc (pend : List (Nat × ByteArray)) (torn : Int) (N : Nat) (i : Int) : ∀ (a : List Int) (m : Nat) (d : List UInt8), crFold pend torn N m (a ++ [i]) d = crStep pend torn N (m + a.length) i (crFold pend torn N m a d)
  | [], m, d => rfl
  | x :: a, m, d => by
    rw [List.cons_append, crFold, crFold, crFold_snoc pend torn N i a (m + 1), List.length_cons, show m + 1 + a.length = m + (a.length + 1) by omega]
/-- the content as the law reckons it -/
def wantK (pend : List (Nat × ByteArray)) (torn : Int) (kp : Nat → Bool) (last : Int) (D : List UInt8) : Nat → List UInt8
  | 0 => D
  | j + 1 => if kp j then match pend[j]? with
    | some x => lay (wantK pend torn kp last D j) x.1 (if (j : Int) = last ∧ 0 ≤ torn then tear torn x.2 else x.2).data.toList
    | none => wantK pend torn kp last D j
    else wantK pend torn kp last D j
theorem wantK_len (pend : List (Nat × ByteArray)) (torn : Int) (kp : Nat → Bool) (last : Int) (D : List UInt8) (hok : ∀ x ∈ pend, x.1 + x.2.size ≤ D.length) : ∀ j, (wantK pend torn kp last D j).length = D.length
  | 0 => rfl
  | j + 1 => by
    have ih := wantK_len pend torn kp last D hok j
    rw [wantK]
    split
    · split
      · rename_i x hx
        have h1 := hok x (List.mem_of_getElem? hx)
        rw [lay_len]
        · exact ih
        · rw [ih]
          have h2 := tear_size torn x.2
          split
          · rw [Array.length_toList]; show x.1 + (tear torn x.2).size ≤ _; omega
          · rw [Array.length_toList]; exact h1
      · exact ih
    · exact ih
theorem want_fold (pend : List (Nat × ByteArray)) (torn : Int) (kp : Nat → Bool) (M : Nat) (D : List UInt8) : ∀ j, j ≤ M → crFold pend torn (ascK kp M).length 0 (ascK kp j) D = wantK pend torn kp (lastK kp M) D j
  | 0, _ => rfl
  | j + 1, h => by
    have ih := want_fold pend torn kp M D j (by omega)
    rw [wantK, ascK]
    cases hk : kp j
    · exact ih
    · rw [if_pos rfl, if_pos rfl, crFold_snoc, ih, Nat.zero_add, crStep, Int.toNat_natCast]
      obtain ⟨d, hd⟩ : ∃ d, M = j + 1 + d := ⟨M - (j + 1), by omega⟩
      have hi := lastK_iff kp j hk d
      rw [← hd] at hi
      cases pend[j]? with
      | none => rfl
      | some x =>
        show lay _ (torn1 torn (ascK kp M).length (ascK kp j).length x).1 (torn1 torn (ascK kp M).length (ascK kp j).length x).2.data.toList = lay (wantK pend torn kp (lastK kp M) D j) x.1 (if (j : Int) = lastK kp M ∧ 0 ≤ torn then tear torn x.2 else x.2).data.toList
        rw [torn1]
        by_cases hc : (j : Int) = lastK kp M ∧ 0 ≤ torn
        · rw [if_pos ⟨hi.2 hc.1, hc.2⟩, if_pos hc]
        · rw [if_neg (fun h => hc ⟨hi.1 h.1, h.2⟩), if_neg hc]
theorem crash_kept (S : Dk) (torn : Int) (kp : Nat → Bool) (M : Nat) (hM : S.pend.length = M) : S.crash (numK kp M) torn = ⟨false, 0, wantK S.pend torn kp (lastK kp M) S.dur M, wantK S.pend torn kp (lastK kp M) S.dur M, []⟩ := by
  have hs : survive S.pend.length (numK kp M) = ascK kp M := survive_asc (by rw [numK_rev]; exact List.reverse_perm _) (ascK_asc kp M) (by rw [hM]; exact ascK_in kp M)
  rw [Dk.crash, hs]
  simp only [want_fold S.pend torn kp M S.dur M (Nat.le_refl _)]
/-- a write that is added behind changes nothing that was reckoned before -/
theorem wantK_snoc (pend : List (Nat × ByteArray)) (y : Nat × ByteArray) (torn : Int) (kp : Nat → Bool) (last : Int) (D : List UInt8) : ∀ j, j ≤ pend.length → wantK (pend ++ [y]) torn kp last D j = wantK pend torn kp last D j
  | 0, _ => rfl
  | j + 1, h => by
    rw [wantK, wantK, wantK_snoc pend y torn kp last D j (by omega), List.getElem?_append_left (by omega)]
theorem wantK_kept {pend : List (Nat × ByteArray)} {y : Nat × ByteArray} {torn : Int} {kp : Nat → Bool} {last : Int} {D : List UInt8} {j : Nat} (hj : pend.length = j) (hk : kp j = true) : wantK (pend ++ [y]) torn kp last D (j + 1) = lay (wantK pend torn kp last D j) y.1 (if (j : Int) = last ∧ 0 ≤ torn then tear torn y.2 else y.2).data.toList := by
  subst hj
  rw [wantK, if_pos hk, List.getElem?_append_right (Nat.le_refl _), Nat.sub_self, wantK_snoc _ _ _ _ _ _ _ (Nat.le_refl _)]
  rfl
theorem wantK_left {pend : List (Nat × ByteArray)} {y : Nat × ByteArray} {torn : Int} {kp : Nat → Bool} {last : Int} {D : List UInt8} {j : Nat} (hj : pend.length = j) (hk : kp j = false) : wantK (pend ++ [y]) torn kp last D (j + 1) = wantK pend torn kp last D j := by
  subst hj
  rw [wantK, hk, if_neg Bool.false_ne_true, wantK_snoc _ _ _ _ _ _ _ (Nat.le_refl _)]
/-- the digits that the law lays down first -/
def digit (i : Nat) : UInt8 := UInt8.ofNat (48 + i % 10)
def digitsL (n j : Nat) : List UInt8 := (List.range n).map fun i => if i < j then digit i else 0
theorem digits_zero (n : Nat) : digitsL n 0 = List.replicate n 0 := by
  apply List.ext_getElem
  · simp [digitsL]
  · intro i h1 h2
    simp [digitsL]
theorem digits_len (n j : Nat) : (digitsL n j).length = n := by simp [digitsL]
theorem digits_set (n j : Nat) (h : j < n) : (digitsL n j).set j (digit j) = digitsL n (j + 1) := by
  apply List.ext_getElem
  · simp [digitsL]
  · intro i h1 h2
    simp only [digitsL, List.getElem_set, List.getElem_map, List.getElem_range]
    by_cases he : j = i
    · rw [if_pos he, if_pos (by omega), he]
    · rw [if_neg he]
      by_cases h3 : i < j
      · rw [if_pos h3, if_pos (by omega)]
      · rw [if_neg h3, if_neg (by omega)]
theorem digit_nat (i : Nat) : ((digit i).toNat : Int) = 48 + (i : Int) % 10 := by
  have h : (48 + i % 10) % 256 = 48 + i % 10 := Nat.mod_eq_of_lt (by omega)
  have h2 : (digit i).toNat = 48 + i % 10 := by rw [digit, UInt8.toNat_ofNat']; exact h
  omega
theorem lay_full (D s : List UInt8) (h : s.length = D.length) : lay D 0 s = s := by
  simp [lay, Go.splice, h]
end Go.Proofs.YtllbphanfahkkaaGreatDoor.RW

/-
  slices.Clone and slices.DeleteFunc at parts: what they return: a row of the call's own; only new memory and that row are written.
-/
import Derived.Test.YtnkdpfkmellpcaaSp2
namespace Go.Proofs.Ytnkdpfkmellpcaa
open Go.RowKit
/-- a row of parts that the call made -/
abbrev OwnP (W : World) (B : Nat) (v : Value) (l : List RW.Pt) : Prop := W.ownsRow B 39 2 v l.length (rowCells RW.pcl l)
theorem OwnP.parts {W : World} {B : Nat} {v : Value} {l : List RW.Pt} (h : OwnP W B v l) : PartsV W v l := rowV_own pcl_len (by decide) h
theorem OwnP.next {W W' : World} {B : Nat} {v : Value} {l : List RW.Pt} (h : OwnP W B v l) (hB : Below W.heap.size W W') : OwnP W' B v l := by
  refine ⟨h.1, h.2.imp id ?_⟩
  rintro ⟨g, cap, cur, h1, h2, h3, h4⟩
  exact ⟨g, cap, cur, h1, h2, (hB.block g (Array.getElem?_eq_some_iff.1 h3).1).trans h3, h4⟩
set_option maxRecDepth 10000 in
set_option maxHeartbeats 2000000 in
theorem clone_parts (v : Value) (l : List RW.Pt) (hl : l.length ≤ 1000000) (w : World) (h : PartsV w v l) :
    Calls Try.prog 35 #[v] w fun e w' => ∃ v', e = .returned v' ∧ OwnP w' w.heap.size v' l ∧ Below w.heap.size w w' := by
  obtain ⟨a, cap, rfl, hcap, hh⟩ := h
  have en : ∀ (W : World) (a : Option Addr) (n c : Nat), (binOp .eql 28 (.slice a n c) (.slice none 0 0)).run Try.prog W = .ok (.bool a.isNone) W := fun W a n c => Lib.run_eql_slice_nil W 28 39 a n c 0 0 Try.underlying28
  cases a with
  | none =>
    obtain rfl : l = [] := by
      rcases hh with hh | ⟨b, o, hh, _⟩
      · exact hh
      · cases hh
    go_enter Try.func35, Try.ntmps35
    go_wp2
    go_ret
    exact ⟨_, rfl, World.ownsRow_nil _ _ _ _, Below.refl _ _⟩
  | some ad =>
    obtain ⟨i0, hi, hz0, hz1, hz2⟩ := info_parts info_part
    have hnews : ∀ j u, (rowCells RW.pcl l)[j]? = some u → (w.alloc (.cells #[] 39)).cell? (ad.add j) = some u := by
      rcases hh with rfl | ⟨b, o, hab, hb, hc⟩
      · intro j u hj; simp [rowCells] at hj
      · cases hab
        intro j u hj
        rw [rowCells_at pcl_len (by decide)] at hj
        obtain ⟨x, hx, hxu⟩ := Option.bind_eq_some_iff.1 hj
        have h1 := hc _ _ hx _ _ hxu
        have h2 : o + j / 2 * 2 + j % 2 = o + j := by omega
        rw [h2] at h1
        rw [Addr.add_mid]
        exact (World.cell?_of_block (a := ⟨b, o + j, none⟩) (Below.heap_alloc _ _ _ hb)).trans h1
    have hown := World.ownsRow_made (base := w.heap.size) (e := 39) (size := 2) w #[] 0 (Nat.le_refl _) (Nat.zero_le _) (by simp)
    have hone : ∀ u ∈ rowCells RW.pcl l, u.oneCell' = true := by
      intro u hu
      obtain ⟨x, _, hx⟩ := List.mem_flatMap.1 hu
      simp [RW.pcl] at hx
      rcases hx with rfl | rfl <;> rfl
    have hlen : (rowCells RW.pcl l).length = l.length * 2 := rowCells_len pcl_len l
    have hsz := hide (show w.heap.size ≤ (w.alloc (.cells #[] 39)).heap.size by simp)
    have hB0 := hide ((Below.refl w.heap.size w).alloc (Nat.le_refl _) (.cells #[] 39))
    have hown' := hide hown
    have hnewsH := hide hnews
    have honeH := hide hone
    have hlenH := hide hlen
    clear hh hown hnews hone hlen hcap
    go_enter Try.func35, Try.ntmps35
    go_wp2_with (at_builtin; refine wpList_append_own _ rfl _ _ 28 rfl w.heap.size 39 i0 (.agg #[.int .i64 0, .int .i64 0]) 2 16 Try.underlying28 hi hz0 hz1 hz2 rfl (by decide) _ _ _ rfl hown'.out ad l.length cap (rowCells RW.pcl l) rfl hlenH.out hnewsH.out honeH.out (by unfold maxLen; omega) (by omega) hsz.out ?_; intro v' w2 hrow hg hnil; have hrowH := hide hrow; have hgH := hide hg; clear hrow hg hnil)
    go_ret
    have hr := hrowH.out
    rw [Nat.zero_add, List.nil_append] at hr
    exact ⟨_, rfl, hr, hB0.out.grown hgH.out hsz.out (fun k e => by cases e; exact Nat.le_refl _)⟩
end Go.Proofs.Ytnkdpfkmellpcaa

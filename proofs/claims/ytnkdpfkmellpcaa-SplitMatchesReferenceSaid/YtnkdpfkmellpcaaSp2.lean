/-
  Parts in memory: Resolve's closure, slices.IndexFunc, slices.Clone at parts: what they return; only new memory is written.
-/
import Derived.Test.YtnkdpfkmellpcaaSb2
import Derived.Test.YtnkdpfkmellpcaaSp1
namespace Go.Proofs.Ytnkdpfkmellpcaa
open Go.RowKit
theorem pcl_len (x : RW.Pt) : (RW.pcl x).length = 2 := rfl
theorem part_size (x : RW.Pt) : (Try.prog.info? 39).map (·.size) = some (RW.pcl x).length := by kernel_rfl
theorem info_part : (Try.prog.info? 39).map (fun i => (i.zero, i.size, i.bytes)) = some (some (.agg #[.int .i64 0, .int .i64 0]), 2, 16) := by kernel_rfl
/-- a slice of parts -/
abbrev PartsV (W : World) (v : Value) (l : List RW.Pt) : Prop := RowV 2 RW.pcl W v l
theorem part_c0 {W : World} {b o : Nat} {x : RW.Pt} (h : W.rangeAt b o (RW.pcl x)) : W.cell? ⟨b, o, none⟩ = some (.int .i64 x.1) := h 0 _ rfl
theorem part_c1 {W : World} {b o : Nat} {x : RW.Pt} (h : W.rangeAt b o (RW.pcl x)) : W.cell? ⟨b, o + 1, none⟩ = some (.int .i64 x.2) := h 1 _ rfl
theorem none_any (x : RW.Pt) (w : World) : Calls Try.prog 33 #[.agg (RW.pcl x).toArray] w fun e w' => e = .returned (.bool (!RW.cntB x.2)) ∧ Below w.heap.size w w' := by
  have hC := hide (fun W => counts_any x.2 W)
  obtain ⟨q, hq⟩ : ∃ q, q = RW.cntB x.2 := ⟨_, rfl⟩
  rw [← hq] at hC ⊢
  have hB := hide ((Below.refl w.heap.size w).alloc (Nat.le_refl _) (.cells (RW.pcl x).toArray 39))
  have c1 : (w.alloc (.cells (RW.pcl x).toArray 39)).cell? ⟨w.heap.size, 1, none⟩ = some (.int .i64 x.2) := by rw [cellAt (newAt rfl)]; rfl
  obtain ⟨cs, hcs⟩ : ∃ cs, cs = (RW.pcl x).toArray := ⟨_, rfl⟩
  rw [← hcs] at hB c1 ⊢
  clear hq hcs
  go_enter Try.func33, Try.ntmps33
  go_wp2_with (go_at_call 28; refine (hC.out _).mono ?_; rintro e w' ⟨rfl, rfl⟩)
  go_ret
  exact ⟨rfl, hB.out⟩
/-- the first part that is not considered -/
def IdxOf (l : List RW.Pt) (r : Int) : Prop := (r = -1 ∧ ∀ x ∈ l, RW.cntB x.2 = true) ∨ ∃ i : Nat, r = i ∧ i < l.length ∧ (∀ x ∈ l.take i, RW.cntB x.2 = true) ∧ ∀ x, l[i]? = some x → RW.cntB x.2 = false
set_option maxRecDepth 10000 in
set_option maxHeartbeats 2000000 in
theorem index_at (b o cap : Nat) (l : List RW.Pt) (hl : l.length ≤ 1000000) (w : World) (hb : b < w.heap.size) (hc : ∀ i x, l[i]? = some x → w.rangeAt b (o + i * 2) (RW.pcl x)) :
    Calls Try.prog 40 #[.slice (some ⟨b, o, none⟩) l.length cap, .func (.func 33) #[] #[]] w fun e w' => (∃ r, e = .returned (.int .i64 r) ∧ IdxOf l r) ∧ Below w.heap.size w w' := by
  have hcH := hide hc
  have hbH := hide hb
  clear hc hb
  obtain ⟨n, hn⟩ : ∃ n, n = l.length := ⟨_, rfl⟩
  rw [← hn] at hl ⊢
  have hnH := hide hn
  clear hn
  go_enter Try.func40, Try.ntmps40
  go_wp2
  go_loopw [8] (fun i wr => ∃ j : Nat, j ≤ n ∧ i = .int .i64 j ∧ Hid (∀ x ∈ l.take j, RW.cntB x.2 = true) ∧ Below w.heap.size w wr) (fun i _ => n - (intOf i).toNat)
  case atStart => exact ⟨0, Nat.zero_le _, rfl, (by intro x hx; simp at hx), Below.refl _ _⟩
  case round =>
    obtain ⟨j, hj, rfl, ha, hB⟩ := hrel
    have hBH := hide hB
    clear hB
    by_cases hlt : j < n
    · have hjl : j < l.length := by rw [← hnH.out]; exact hlt
      obtain ⟨x, hx⟩ : ∃ x, l[j]? = some x := ⟨_, List.getElem?_eq_getElem hjl⟩
      have hrg : wr.rangeAt b (o + j * 2) (RW.pcl x) := fun i u hu => (World.cell?_of_block (a := ⟨b, o + j * 2 + i, none⟩) (hBH.out.block _ hbH.out)).trans (hcH.out j x hx i u hu)
      have hN := hide (none_any x wr)
      have hps := part_size x
      have hxH := hide hx
      obtain ⟨q, hq⟩ : ∃ q, q = RW.cntB x.2 := ⟨_, rfl⟩
      have hqH := hide hq
      rw [← hq] at hN
      clear hx hq
      cases q
      · go_wp2_with (first
          | (refine wpList_load_mid rfl 39 (.tmp 14) rfl b (o + j * 2) rfl (RW.pcl x) _ hrg Try.underlying39 rfl hps ?_)
          | (go_at_call 33; refine hN.out.mono ?_; rintro e w2 ⟨rfl, hB2⟩; have hB2H := hide hB2; clear hB2))
        go_ret
        exact ⟨⟨_, rfl, .inr ⟨j, rfl, hjl, ha.out, fun y hy => by obtain rfl := Option.some.inj (hxH.out.symm.trans hy); exact hqH.out.symm⟩⟩, hBH.out.trans (hB2H.out.mono hBH.out.size)⟩
      · go_wp2_with (first
          | (refine wpList_load_mid rfl 39 (.tmp 14) rfl b (o + j * 2) rfl (RW.pcl x) _ hrg Try.underlying39 rfl hps ?_)
          | (go_at_call 33; refine hN.out.mono ?_; rintro e w2 ⟨rfl, hB2⟩; have hB2H := hide hB2; clear hB2))
        go_roundw
        case rel =>
          refine ⟨j + 1, by omega, by go_num, fun y hy => ?_, hBH.out.trans (hB2H.out.mono hBH.out.size)⟩
          rw [List.take_add_one, hxH.out] at hy
          rcases List.mem_append.1 hy with hy | hy
          · exact ha.out y hy
          · simp at hy
            subst hy
            exact hqH.out.symm
        case measure => simp [intOf]; omega
    · obtain rfl : j = n := by omega
      have hA := hide (show ∀ x ∈ l, RW.cntB x.2 = true by have := ha.out; rwa [List.take_of_length_le (by rw [hnH.out]; exact Nat.le_refl _)] at this)
      go_wp2
      go_ret
      exact ⟨⟨-1, rfl, .inl ⟨rfl, hA.out⟩⟩, hBH.out⟩
theorem index_none (a : Option Addr) (cap : Nat) (w : World) : Calls Try.prog 40 #[.slice a 0 cap, .func (.func 33) #[] #[]] w fun e w' => e = .returned (.int .i64 (-1)) ∧ w = w' := by
  go_enter Try.func40, Try.ntmps40
  go_wp2
  refine wp_loop_rounds 1 ?_
  rw [rounds_succ]
  go_wp2
  go_ret
  exact ⟨rfl, rfl⟩
end Go.Proofs.Ytnkdpfkmellpcaa

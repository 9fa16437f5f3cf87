/-
  Package statement: money's closure, slices.IndexFunc and ContainsFunc with it, money; the reference's money: what they return; no memory that was there is written.
-/
import Derived.Test.YtillplhadimgmaaStP
namespace Go.Proofs.Ytillplhadimgmaa
open Go.RowKit
theorem alloc_at1 (w : World) (A : Obj) : (w.alloc A).heap[w.heap.size]? = some A := heap_alloc_new w A
theorem alloc_size (w : World) (A : Obj) : (w.alloc A).heap.size = w.heap.size + 1 := by simp
theorem alloc_bel {B : Nat} {w W : World} (h : Below B w W) (hB : B ≤ w.heap.size) (A : Obj) : Below B w (W.alloc A) := h.alloc (Nat.le_trans hB h.size) A
theorem below_set {B b i : Nat} {w W : World} (h : Below B w W) (hb : B ≤ b) (v : Value) : Below B w (W.setCell ⟨b, i, none⟩ v) :=
  ⟨h.os, h.tape, h.output, by simpa using h.size, fun k hk => (Below.heap_setCell _ _ _ _ (show k ≠ b by omega)).trans (h.block k hk)⟩
/-- the ints of a slice in a world -/
theorem ints_cell {W : World} {b o j : Nat} {l : List Int} {y : Int} (hc : ∀ i x, l[i]? = some x → W.rangeAt b (o + i * 1) (encI x)) (hy : l[j]? = some y) : W.cell? ⟨b, o + j, none⟩ = some (.int .i64 y) := by
  have := hc j y hy 0 _ rfl
  rw [Nat.mul_one, Nat.add_zero] at this
  exact this
theorem out_any (n : Int) (w : World) : Calls Try.prog 45 #[.int .i64 n] w fun e w' => e = .returned (.bool (!RW.mon n)) ∧ w = w' := by
  by_cases h0 : n < 0
  · have e := hide (RW.mon_neg0 h0)
    go_enter Try.func45, Try.ntmps45
    go_wp2
    go_ret
    exact ⟨by rw [e.out] <;> rfl, rfl⟩
  · by_cases h1 : 1000000000000000 < n
    · have e := hide (RW.mon_neg1 h1)
      go_enter Try.func45, Try.ntmps45
      go_wp2
      go_ret
      exact ⟨by rw [e.out] <;> rfl, rfl⟩
    · have e := hide (RW.mon_pos (by omega : 0 ≤ n) (by omega))
      go_enter Try.func45, Try.ntmps45
      go_wp2
      go_ret
      exact ⟨by rw [e.out] <;> rfl, rfl⟩
set_option maxRecDepth 10000 in
theorem idx_any (v : Value) (l : List Int) (hl : l.length ≤ 1000000) (w : World) (hv : RowV 1 encI w v l) :
    Calls Try.prog 52 #[v, .func (.func 45) #[] #[]] w fun e w' => (∃ i : Int, e = .returned (.int .i64 i) ∧ decide (0 ≤ i) = !(l.all RW.mon)) ∧ w = w' := by
  obtain ⟨m, hm⟩ : ∃ m, m = l.length := ⟨_, rfl⟩
  obtain ⟨av, cv, rfl, hcv, hav⟩ := hv
  rw [← hm] at hcv hl ⊢
  have hmH := hide hm
  have havH := hide hav
  clear hm hav hcv
  go_enter Try.func52, Try.ntmps52
  go_wp2
  go_loopw [8] (fun i wr => ∃ j : Nat, i = .int .i64 j ∧ j ≤ m ∧ Hid ((l.take j).all RW.mon = true ∧ wr = w)) (fun i _ => m - (intOf i).toNat)
  case atStart => exact ⟨0, rfl, Nat.zero_le _, by simp, rfl⟩
  case round =>
    obtain ⟨j, rfl, hjm, hQ⟩ := hrel
    obtain ⟨hno, hwr⟩ := hQ.out
    subst hwr
    have hnoH := hide hno
    clear hQ hno
    by_cases hlt : j < m
    · obtain ⟨y, hy⟩ : ∃ y, l[j]? = some y := ⟨_, List.getElem?_eq_getElem (by rw [← hmH.out]; exact hlt)⟩
      obtain ⟨b, o, rfl, _, hc⟩ := havH.out.resolve_left (by rintro rfl; simp at hy)
      have hcell : wr.cell? ⟨b, o + j, none⟩ = some (.int .i64 y) := ints_cell hc hy
      have htk := hide (show l.take (j + 1) = l.take j ++ [y] by rw [List.take_add_one, hy]; rfl)
      have hyH := hide hy
      have hO := hide (fun W => out_any y W)
      obtain ⟨q, hq⟩ : ∃ q, q = RW.mon y := ⟨_, rfl⟩
      have hqH := hide hq
      rw [← hq] at hO
      clear hc hy hq
      cases q
      · have hin := hide (show l.all RW.mon = false by
          rw [List.all_eq_false]
          exact ⟨y, List.mem_of_getElem? hyH.out, by rw [← hqH.out]; simp⟩)
        go_wp2_with (go_at_call 45; refine (hO.out _).mono ?_; rintro e w2 ⟨rfl, rfl⟩)
        go_ret
        exact ⟨⟨j, rfl, by rw [hin.out]; exact decide_eq_true (Int.natCast_nonneg j)⟩, rfl⟩
      · go_wp2_with (go_at_call 45; refine (hO.out _).mono ?_; rintro e w2 ⟨rfl, rfl⟩)
        go_roundw
        case rel => exact ⟨j + 1, by go_num, by omega, by rw [htk.out, List.all_append, hnoH.out]; simp [← hqH.out], trivial⟩
        case measure => simp [intOf]; omega
    · obtain rfl : j = m := by omega
      have h1 := hnoH.out
      rw [List.take_of_length_le (by rw [← hmH.out]; exact Nat.le_refl _)] at h1
      have hno := hide h1
      clear h1
      go_wp2
      go_ret
      exact ⟨⟨-1, rfl, by rw [hno.out]; rfl⟩, rfl⟩
theorem money_any (v : Value) (l : List Int) (hl : l.length ≤ 1000000) (w : World) (hv : RowV 1 encI w v l) :
    Calls Try.prog 30 #[v] w fun e w' => e = .returned (.bool (l.all RW.mon)) ∧ w = w' := by
  have hI := hide (idx_any v l hl w hv)
  obtain ⟨av, cv, rfl, _, _⟩ := hv
  obtain ⟨m, hm⟩ : ∃ m, m = l.length := ⟨_, rfl⟩
  rw [← hm] at hI ⊢
  have hC := hide (show Calls Try.prog 44 #[.slice av m cv, .func (.func 45) #[] #[]] w fun e w' => e = .returned (.bool (!(l.all RW.mon))) ∧ w = w' by
    clear hm hl
    go_enter Try.func44, Try.ntmps44
    go_wp2_with (go_at_call 52; refine hI.out.mono ?_; rintro e w' ⟨⟨i, rfl, hi⟩, rfl⟩; have hiH := hide hi; clear hi)
    go_ret
    exact ⟨by rw [← hiH.out] <;> rfl, rfl⟩)
  obtain ⟨q, hq⟩ : ∃ q, q = l.all RW.mon := ⟨_, rfl⟩
  rw [← hq] at hC ⊢
  clear hm hl hI hq
  go_enter Try.func30, Try.ntmps30
  go_wp2_with (go_at_call 44; refine hC.out.mono ?_; rintro e w' ⟨rfl, rfl⟩)
  go_ret
  exact ⟨by simp, rfl⟩
theorem rmoney_any (n : Int) (w : World) : Calls Try.prog 31 #[.int .i64 n] w fun e w' => e = .returned (.bool (RW.mon n)) ∧ w = w' := by
  by_cases h0 : n < 0
  · have e := hide (RW.mon_neg0 h0)
    go_enter Try.func31, Try.ntmps31
    go_wp2
    go_ret
    exact ⟨by rw [e.out] <;> rfl, rfl⟩
  · by_cases h1 : 1000000000000000 < n
    · have e := hide (RW.mon_neg1 h1)
      have d := hide (show decide (n ≤ 1000000000000000) = false from decide_eq_false (by omega))
      go_enter Try.func31, Try.ntmps31
      go_wp2
      go_ret
      exact ⟨by rw [e.out, ← d.out] <;> rfl, rfl⟩
    · have e := hide (RW.mon_pos (by omega : 0 ≤ n) (by omega))
      have d := hide (show decide (n ≤ 1000000000000000) = true from decide_eq_true (by omega))
      go_enter Try.func31, Try.ntmps31
      go_wp2
      go_ret
      exact ⟨by rw [e.out, ← d.out] <;> rfl, rfl⟩
end Go.Proofs.Ytillplhadimgmaa

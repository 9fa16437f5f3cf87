/-
  Packages split, royaltyref12, royaltylaw12: the small functions (counts, in, InEffect, pick, claim, Resolve's closure): what each returns; only new memory is written.
-/
import Derived.Laws.ShiftsVarLaws
import Derived.Test.YtnkdpfkmellpcaaSb
import Derived.Test.YtnkdpfkmellpcaaSpP
namespace Go.Proofs.Ytnkdpfkmellpcaa
open Go.RowKit
namespace RW
/-- a fact's numbers and text, as cells -/
def fcl (f : Nat → Int) (s : ByteArray) : List Value := [.int .i64 (f 0), .int .i64 (f 1), .int .i64 (f 2), .int .i64 (f 3), .int .i64 (f 4), .int .i64 (f 5), .int .i64 (f 6), .int .i64 (f 7), .int .i64 (f 8), .int .i64 (f 9), .int .i64 (f 10), .int .i64 (f 11), .int .i64 (f 12), .int .i64 (f 13), .int .i64 (f 14), .int .i64 (f 15), .int .i64 (f 16), .string s]
def fcells (f : Nat → Int) (s : ByteArray) : Array Value := (fcl f s).toArray
/-- a part's cells -/
def pcl (x : Pt) : List Value := [.int .i64 x.1, .int .i64 x.2]
end RW
theorem fc_get (f : Nat → Int) (s : ByteArray) (i : Nat) (h : i < 17) : (RW.fcells f s)[i]? = some (.int .i64 (f i)) := by
  have h' : i = 0 ∨ i = 1 ∨ i = 2 ∨ i = 3 ∨ i = 4 ∨ i = 5 ∨ i = 6 ∨ i = 7 ∨ i = 8 ∨ i = 9 ∨ i = 10 ∨ i = 11 ∨ i = 12 ∨ i = 13 ∨ i = 14 ∨ i = 15 ∨ i = 16 := by omega
  rcases h' with rfl | rfl | rfl | rfl | rfl | rfl | rfl | rfl | rfl | rfl | rfl | rfl | rfl | rfl | rfl | rfl | rfl <;> rfl
theorem run_shr (a t : Int) (h0 : 0 ≤ t) (h8 : t < 8) (W : World) : (binOp .shr 3 (.int .i64 a) (.int .i64 t)).run Try.prog W = .ok (.int .i64 (a / 2 ^ t.toNat)) W := by
  have h : ¬ t < 0 := by omega
  go_simp
theorem run_and1 (v : Int) (W : World) : (binOp .and 3 (.int .i64 v) (.int .i64 1)).run Try.prog W = .ok (.int .i64 (v % 2)) W := by
  rw [← RW.and_one]
  go_simp
theorem counts_any (s : Int) (w : World) : Calls Try.prog 28 #[.int .i64 s] w fun e w' => e = .returned (.bool (RW.cntB s)) ∧ w = w' := by
  by_cases h1 : 1 ≤ s
  · by_cases h2 : s ≤ 1000000
    · have e := hide (show RW.cntB s = true from (RW.cntB_iff s).2 ⟨h1, h2⟩)
      go_enter Try.func28, Try.ntmps28
      go_wp2
      go_ret
      exact ⟨by rw [e.out] <;> rfl, rfl⟩
    · have e := hide (show RW.cntB s = false from Bool.eq_false_iff.2 fun h => h2 ((RW.cntB_iff s).1 h).2)
      go_enter Try.func28, Try.ntmps28
      go_wp2
      go_ret
      exact ⟨by rw [e.out] <;> rfl, rfl⟩
  · have e := hide (show RW.cntB s = false from Bool.eq_false_iff.2 fun h => h1 ((RW.cntB_iff s).1 h).1)
    go_enter Try.func28, Try.ntmps28
    go_wp2
    go_ret
    exact ⟨by rw [e.out] <;> rfl, rfl⟩
theorem rcounts_any (s : Int) (w : World) : Calls Try.prog 36 #[.int .i64 s] w fun e w' => e = .returned (.bool (RW.cntB s)) ∧ w = w' := by
  by_cases h1 : 1 ≤ s
  · by_cases h2 : s ≤ 1000000
    · have e := hide (show RW.cntB s = true from (RW.cntB_iff s).2 ⟨h1, h2⟩)
      go_enter Try.func36, Try.ntmps36
      go_wp2
      go_ret
      exact ⟨by rw [e.out] <;> rfl, rfl⟩
    · have e := hide (show RW.cntB s = false from Bool.eq_false_iff.2 fun h => h2 ((RW.cntB_iff s).1 h).2)
      go_enter Try.func36, Try.ntmps36
      go_wp2
      go_ret
      exact ⟨by rw [e.out] <;> rfl, rfl⟩
  · have e := hide (show RW.cntB s = false from Bool.eq_false_iff.2 fun h => h1 ((RW.cntB_iff s).1 h).1)
    go_enter Try.func36, Try.ntmps36
    go_wp2
    go_ret
    exact ⟨by rw [e.out] <;> rfl, rfl⟩
theorem inB_iff (f : Nat → Int) (t p : Int) : RW.inB f t p = true ↔ 0 ≤ t ∧ t < 8 ∧ RW.bitI (f 8) t = 1 ∧ f 11 ≤ p ∧ p < f 12 := by simp [RW.inB]
set_option maxHeartbeats 1000000 in
theorem in_any (f : Nat → Int) (s : ByteArray) (t p : Int) (w : World) : Calls Try.prog 27 #[.agg (RW.fcells f s), .int .i64 t, .int .i64 p] w fun e w' => e = .returned (.bool (RW.inB f t p)) ∧ Below w.heap.size w w' := by
  obtain ⟨cs, hcs⟩ : ∃ cs, cs = RW.fcells f s := ⟨_, rfl⟩
  rw [← hcs]
  have c8 : (w.alloc (.cells cs 43)).cell? ⟨w.heap.size, 8, none⟩ = some (.int .i64 (f 8)) := by rw [cellAt (newAt rfl), hcs]; exact fc_get f s 8 (by decide)
  have c11 : (w.alloc (.cells cs 43)).cell? ⟨w.heap.size, 11, none⟩ = some (.int .i64 (f 11)) := by rw [cellAt (newAt rfl), hcs]; exact fc_get f s 11 (by decide)
  have c12 : (w.alloc (.cells cs 43)).cell? ⟨w.heap.size, 12, none⟩ = some (.int .i64 (f 12)) := by rw [cellAt (newAt rfl), hcs]; exact fc_get f s 12 (by decide)
  have hB := hide ((Below.refl w.heap.size w).alloc (Nat.le_refl _) (.cells cs 43))
  have hI := inB_iff f t p
  obtain ⟨r, hr⟩ : ∃ r, r = RW.inB f t p := ⟨_, rfl⟩
  rw [← hr] at hI ⊢
  have no : ¬ (0 ≤ t ∧ t < 8 ∧ RW.bitI (f 8) t = 1 ∧ f 11 ≤ p ∧ p < f 12) → r = false := fun h => Bool.eq_false_iff.2 fun h' => h (hI.1 h')
  clear hcs hr
  by_cases h1 : 0 ≤ t
  · by_cases h2 : t < 8
    · have e1 := run_shr (f 8) t h1 h2
      have e2 := RW.and_one (f 8 / 2 ^ t.toNat)
      by_cases h3 : RW.bitI (f 8) t = 1
      · have h3' : f 8 / 2 ^ t.toNat % 2 = 1 := h3
        rw [h3'] at e2
        by_cases h4 : f 11 ≤ p
        · by_cases h5 : p < f 12
          · have e := hide (show r = true from hI.2 ⟨h1, h2, h3, h4, h5⟩)
            clear no hI h3 h3'
            go_enter Try.func27, Try.ntmps27
            go_wp2
            go_ret
            exact ⟨by rw [e.out] <;> rfl, hB.out⟩
          · have e := hide (no fun h => h5 h.2.2.2.2)
            clear no hI h3 h3'
            go_enter Try.func27, Try.ntmps27
            go_wp2
            go_ret
            exact ⟨by rw [e.out] <;> rfl, hB.out⟩
        · have e := hide (no fun h => h4 h.2.2.2.1)
          clear no hI h3 h3'
          go_enter Try.func27, Try.ntmps27
          go_wp2
          go_ret
          exact ⟨by rw [e.out] <;> rfl, hB.out⟩
      · have e := hide (no fun h => h3 h.2.2.1)
        obtain ⟨x, hx⟩ : ∃ x, x = f 8 / 2 ^ t.toNat % 2 := ⟨_, rfl⟩
        have h3' : (x == 1) = false := by rw [beq_eq_false_iff_ne, hx]; exact h3
        rw [← hx] at e2
        have h4' := h3'
        clear no hI h3 hx h4'
        go_enter Try.func27, Try.ntmps27
        go_wp2
        go_ret
        exact ⟨by rw [e.out] <;> rfl, hB.out⟩
    · have e := hide (no fun h => h2 h.2.1)
      clear no hI
      go_enter Try.func27, Try.ntmps27
      go_wp2
      go_ret
      exact ⟨by rw [e.out] <;> rfl, hB.out⟩
  · have e := hide (no fun h => h1 h.1)
    clear no hI
    go_enter Try.func27, Try.ntmps27
    go_wp2
    go_ret
    exact ⟨by rw [e.out] <;> rfl, hB.out⟩
end Go.Proofs.Ytnkdpfkmellpcaa

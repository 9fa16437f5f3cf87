/-
  Package royaltyref12: InEffect: what it returns; only new memory is written.
-/
import Derived.Test.YtnkdpfkmellpcaaSp15
namespace Go.Proofs.Ytnkdpfkmellpcaa
open Go.RowKit
attribute [local go_sem ↓] ldRow_part ldRow_fact
theorem effB_iff (f : Nat → Int) (r ro t p : Int) : RW.effB f r ro t p = true ↔ 0 ≤ t ∧ t < 8 ∧ RW.bitI (f 8) t = 1 ∧ f 7 = r ∧ f 10 = ro ∧ f 11 ≤ p ∧ p < f 12 ∧ RW.cntB (f 14) = true := by
  simp only [RW.effB, RW.inB, Bool.and_eq_true, decide_eq_true_eq]
  constructor
  · rintro ⟨h7, h10, ⟨h1, h2, h3, h4, h5⟩, h6⟩
    exact ⟨h1, h2, h3, h7, h10, h4, h5, h6⟩
  · rintro ⟨h1, h2, h3, h7, h10, h4, h5, h6⟩
    exact ⟨h7, h10, ⟨h1, h2, h3, h4, h5⟩, h6⟩
set_option maxRecDepth 10000 in
set_option maxHeartbeats 2000000 in
theorem ineffect_any (f : Nat → Int) (s : ByteArray) (r ro t p : Int) (w : World) : Calls Try.prog 31 #[.agg (RW.fcells f s), .int .i64 r, .int .i64 ro, .int .i64 t, .int .i64 p] w fun e w' => e = .returned (.bool (RW.effB f r ro t p)) ∧ Below w.heap.size w w' := by
  obtain ⟨cs, hcs⟩ : ∃ cs, cs = RW.fcells f s := ⟨_, rfl⟩
  rw [← hcs]
  have c7 : (w.alloc (.cells cs 43)).cell? ⟨w.heap.size, 7, none⟩ = some (.int .i64 (f 7)) := by rw [cellAt (newAt rfl), hcs]; exact fc_get f s 7 (by decide)
  have c8 : (w.alloc (.cells cs 43)).cell? ⟨w.heap.size, 8, none⟩ = some (.int .i64 (f 8)) := by rw [cellAt (newAt rfl), hcs]; exact fc_get f s 8 (by decide)
  have c10 : (w.alloc (.cells cs 43)).cell? ⟨w.heap.size, 10, none⟩ = some (.int .i64 (f 10)) := by rw [cellAt (newAt rfl), hcs]; exact fc_get f s 10 (by decide)
  have c11 : (w.alloc (.cells cs 43)).cell? ⟨w.heap.size, 11, none⟩ = some (.int .i64 (f 11)) := by rw [cellAt (newAt rfl), hcs]; exact fc_get f s 11 (by decide)
  have c12 : (w.alloc (.cells cs 43)).cell? ⟨w.heap.size, 12, none⟩ = some (.int .i64 (f 12)) := by rw [cellAt (newAt rfl), hcs]; exact fc_get f s 12 (by decide)
  have c14 : (w.alloc (.cells cs 43)).cell? ⟨w.heap.size, 14, none⟩ = some (.int .i64 (f 14)) := by rw [cellAt (newAt rfl), hcs]; exact fc_get f s 14 (by decide)
  have hB := hide ((Below.refl w.heap.size w).alloc (Nat.le_refl _) (.cells cs 43))
  have hI := effB_iff f r ro t p
  obtain ⟨q, hq⟩ : ∃ q, q = RW.effB f r ro t p := ⟨_, rfl⟩
  rw [← hq] at hI ⊢
  have no : ¬ (0 ≤ t ∧ t < 8 ∧ RW.bitI (f 8) t = 1 ∧ f 7 = r ∧ f 10 = ro ∧ f 11 ≤ p ∧ p < f 12 ∧ RW.cntB (f 14) = true) → q = false := fun h => Bool.eq_false_iff.2 fun h' => h (hI.1 h')
  clear hcs hq
  by_cases h1 : 0 ≤ t
  · by_cases h2 : t < 8
    · have e1 := run_shr (f 8) t h1 h2
      have e2 := RW.and_one (f 8 / 2 ^ t.toNat)
      by_cases h3 : RW.bitI (f 8) t = 1
      · have h3' : f 8 / 2 ^ t.toNat % 2 = 1 := h3
        rw [h3'] at e2
        by_cases h7 : f 7 = r
        · have h7b : (f 7 == r) = true := by simp [h7]
          by_cases h10 : f 10 = ro
          · have h10b : (f 10 == ro) = true := by simp [h10]
            by_cases h11 : f 11 ≤ p
            · by_cases h12 : p < f 12
              · have hC := hide (fun W => rcounts_any (f 14) W)
                obtain ⟨qc, hqc⟩ : ∃ b, b = RW.cntB (f 14) := ⟨_, rfl⟩
                rw [← hqc] at hC
                have e := hide (show q = qc by
                  cases qc
                  · exact no fun h => by rw [h.2.2.2.2.2.2.2] at hqc; cases hqc
                  · exact hI.2 ⟨h1, h2, h3, h7, h10, h11, h12, hqc.symm⟩)
                clear no hI h3 h3' h7 h10 hqc
                go_enter Try.func31, Try.ntmps31
                go_wp2_with (go_at_call 36; refine (hC.out _).mono ?_; rintro e w' ⟨rfl, rfl⟩)
                go_ret
                exact ⟨by rw [e.out] <;> rfl, hB.out⟩
              · have e := hide (no fun h => h12 h.2.2.2.2.2.2.1)
                clear no hI h3 h3' h7 h10
                go_enter Try.func31, Try.ntmps31
                go_wp2
                go_ret
                exact ⟨by rw [e.out] <;> rfl, hB.out⟩
            · have e := hide (no fun h => h11 h.2.2.2.2.2.1)
              clear no hI h3 h3' h7 h10
              go_enter Try.func31, Try.ntmps31
              go_wp2
              go_ret
              exact ⟨by rw [e.out] <;> rfl, hB.out⟩
          · have h10b : (f 10 == ro) = false := by simp [h10]
            have e := hide (no fun h => h10 h.2.2.2.2.1)
            clear no hI h3 h3' h7 h10
            go_enter Try.func31, Try.ntmps31
            go_wp2
            go_ret
            exact ⟨by rw [e.out] <;> rfl, hB.out⟩
        · have h7b : (f 7 == r) = false := by simp [h7]
          have e := hide (no fun h => h7 h.2.2.2.1)
          clear no hI h3 h3' h7
          go_enter Try.func31, Try.ntmps31
          go_wp2
          go_ret
          exact ⟨by rw [e.out] <;> rfl, hB.out⟩
      · have e := hide (no fun h => h3 h.2.2.1)
        have h0 : f 8 / 2 ^ t.toNat % 2 = 0 := by
          have h3' : ¬ f 8 / 2 ^ t.toNat % 2 = 1 := h3
          omega
        rw [h0] at e2
        clear no hI h3 h0
        go_enter Try.func31, Try.ntmps31
        go_wp2
        go_ret
        exact ⟨by rw [e.out] <;> rfl, hB.out⟩
    · have e := hide (no fun h => h2 h.2.1)
      have h2' : 8 ≤ t := by omega
      clear no hI
      go_enter Try.func31, Try.ntmps31
      go_wp2
      go_ret
      exact ⟨by rw [e.out] <;> rfl, hB.out⟩
  · have e := hide (no fun h => h1 h.1)
    have h1' : t < 0 := by omega
    clear no hI
    go_enter Try.func31, Try.ntmps31
    go_wp2
    go_ret
    exact ⟨by rw [e.out] <;> rfl, hB.out⟩
end Go.Proofs.Ytnkdpfkmellpcaa

/-
  Package royaltyref05: within, id, period, territory, Key: what each returns.
-/
import Derived.Test.YtpihhjpgdbcifaaDoorLaw5
namespace Go.Proofs.YtpihhjpgdbcifaaDoor
open Go.RowKit
set_option maxHeartbeats 1000000 in
theorem rwithin_any (n lo hi : Int) (w : World) : Calls Tryd.prog 32 #[.int .i64 n, .int .i64 lo, .int .i64 hi] w fun e w' => e = .returned (.bool (decide (lo ≤ n ∧ n ≤ hi))) ∧ w = w' := by
  obtain ⟨b, hb⟩ : ∃ b, b = decide (lo ≤ n ∧ n ≤ hi) := ⟨_, rfl⟩
  rw [← hb]
  have hbH := hide hb
  clear hb
  by_cases h1 : lo ≤ n
  · by_cases h2 : n ≤ hi
    · have eH := hide (show decide (lo ≤ n ∧ n ≤ hi) = true by simp [h1, h2])
      go_enter Tryd.func32, Tryd.ntmps32
      go_wp2
      go_ret
      exact ⟨by rw [hbH.out, eH.out]; rfl, rfl⟩
    · have eH := hide (show decide (lo ≤ n ∧ n ≤ hi) = false by simp [h2])
      go_enter Tryd.func32, Tryd.ntmps32
      go_wp2
      go_ret
      exact ⟨by rw [hbH.out, eH.out]; rfl, rfl⟩
  · have eH := hide (show decide (lo ≤ n ∧ n ≤ hi) = false by simp [h1])
    go_enter Tryd.func32, Tryd.ntmps32
    go_wp2
    go_ret
    exact ⟨by rw [hbH.out, eH.out]; rfl, rfl⟩
theorem rid_any (n : Int) (w : World) : Calls Tryd.prog 66 #[.int .i64 n] w fun e w' => e = .returned (.bool (decide (1 ≤ n ∧ n ≤ 1000000))) ∧ w = w' := by
  obtain ⟨b, hb⟩ : ∃ b, b = decide (1 ≤ n ∧ n ≤ 1000000) := ⟨_, rfl⟩
  rw [← hb]
  have hbH := hide hb
  clear hb
  go_enter Tryd.func66, Tryd.ntmps66
  go_wp2_with fail
  refine (rwithin_any _ _ _ _).mono ?_
  rintro e w1 ⟨rfl, rfl⟩
  rw [← hbH.out]
  go_wp2
  go_ret
  exact ⟨rfl, rfl⟩
theorem rterr_any (n : Int) (w : World) : Calls Tryd.prog 67 #[.int .i64 n] w fun e w' => e = .returned (.bool (decide (0 ≤ n ∧ n ≤ 7))) ∧ w = w' := by
  obtain ⟨b, hb⟩ : ∃ b, b = decide (0 ≤ n ∧ n ≤ 7) := ⟨_, rfl⟩
  rw [← hb]
  have hbH := hide hb
  clear hb
  go_enter Tryd.func67, Tryd.ntmps67
  go_wp2_with fail
  refine (rwithin_any _ _ _ _).mono ?_
  rintro e w1 ⟨rfl, rfl⟩
  rw [← hbH.out]
  go_wp2
  go_ret
  exact ⟨rfl, rfl⟩
theorem rperiod_any (n : Int) (w : World) : Calls Tryd.prog 68 #[.int .i64 n] w fun e w' => e = .returned (.bool (decide (0 ≤ n ∧ n ≤ 1199))) ∧ w = w' := by
  obtain ⟨b, hb⟩ : ∃ b, b = decide (0 ≤ n ∧ n ≤ 1199) := ⟨_, rfl⟩
  rw [← hb]
  have hbH := hide hb
  clear hb
  go_enter Tryd.func68, Tryd.ntmps68
  go_wp2_with fail
  refine (rwithin_any _ _ _ _).mono ?_
  rintro e w1 ⟨rfl, rfl⟩
  rw [← hbH.out]
  go_wp2
  go_ret
  exact ⟨rfl, rfl⟩
set_option maxRecDepth 100000 in
set_option maxHeartbeats 4000000 in
theorem rkey_any (f : Nat → Int) (s : ByteArray) (w : World) :
    Calls Tryd.prog 18 #[.agg (RW.fcells f s)] w fun e w' => e = .returned (.agg #[.int .i64 (f 0), .int .i64 (RW.keyV f).1, .int .i64 (RW.keyV f).2]) ∧ Below w.heap.size w w' := by
  obtain ⟨p, q, hpq⟩ : ∃ p q : Int, RW.keyV f = (p, q) := ⟨_, _, rfl⟩
  rw [hpq]
  have hpqH := hide hpq
  clear hpq
  obtain ⟨cs, hcs⟩ : ∃ cs, cs = RW.fcells f s := ⟨_, rfl⟩
  rw [← hcs]
  have hcsH := hide hcs
  clear hcs
  have hi3 : (Tryd.prog.info? 28).map (·.size) = some (3 : Nat) := by kernel_rfl
  go_enter Tryd.func18, Tryd.ntmps18
  go_upto_region 3 with fail
  obtain ⟨b, hb⟩ : ∃ b, b = w.heap.size := ⟨_, rfl⟩
  have hR := FRows.new (FRows.nil (Below.refl w.heap.size w)) f s
  rw [← hcsH.out, ← hb] at hR
  rw [← hb]
  obtain ⟨z, hz⟩ : ∃ z, z = b + 1 := ⟨_, rfl⟩
  rw [← hz]
  have hzs : (w.alloc (.cells cs 23)).heap.size = z := by rw [hz, hb]; simp
  have hle := hide (show w.heap.size ≤ z by omega)
  refine gen_world (fun W => FRows [(b, f, s)] w W ∧ W.heap[z]? = some (.cells #[.int .i64 0, .int .i64 0, .int .i64 0] 28 (0, 0))) ⟨hR.next ((Below.refl _ _).alloc (Nat.le_refl _) _), by rw [← hzs]; exact heap_alloc_new _ _⟩ ?_
  clear hR hzs hz hb
  rintro W ⟨hF, hZ⟩
  have c1 := hF.cell b f s (by simp) 1 (by decide)
  have c3 := hF.cell b f s (by simp) 3 (by decide)
  have c5 := hF.cell b f s (by simp) 5 (by decide)
  have c6 := hF.cell b f s (by simp) 6 (by decide)
  have c8 := hF.cell b f s (by simp) 8 (by decide)
  have c9 := hF.cell b f s (by simp) 9 (by decide)
  have c11 := hF.cell b f s (by simp) 11 (by decide)
  have c15 := hF.cell b f s (by simp) 15 (by decide)
  have hBW := hide hF.below
  have hZH := hide hZ
  clear hZ
  have h0 : f 0 = 1 ∨ f 0 = 2 ∨ f 0 = 3 ∨ f 0 = 4 ∨ f 0 = 5 ∨ f 0 = 6 ∨ f 0 = 7 ∨ f 0 = 8 ∨ f 0 = 9 ∨ f 0 = 10 ∨ (f 0 < 1 ∨ 10 < f 0) := by omega
  have c0 := hF.cell b f s (by simp) 0 (by decide)
  clear hF
  rcases h0 with hk | hk | hk | hk | hk | hk | hk | hk | hk | hk | hk
  · have hh := hpqH.out
    unfold RW.keyV at hh
    rw [if_pos (by omega), hk] at hh
    simp [RW.keyK] at hh
    rw [hk] at c0
    have hkH := hide hk
    have hhH := hide hh
    clear hk hh
    go_upto_region 6 with fail
    go_quiet (fail)
    go_wp2_with (refine wpList_store_row rfl 28 (.tmp 2) (.tmp 52) rfl z #[.int .i64 1, .int .i64 (f 6), .int .i64 (f 1)] rfl rfl 28 _ hZH.out hi3 rfl (by simp [Value.oneCell']) ?_)
    refine bodyPost_ret (results_cell_row rfl _ _ z 28 #[.int .i64 1, .int .i64 (f 6), .int .i64 (f 1)] (0, 0) _ rfl (setRow_heap _ _ _ _ _ _ hZH.out) Tryd.underlying28 rfl hi3) rfl ⟨by rw [hkH.out, ← hhH.out.1, ← hhH.out.2], by first | exact RW.below_setRow hBW.out hle.out _ | exact RW.below_setRow (RW.below_drewN hBW.out) hle.out _⟩
  · have hh := hpqH.out
    unfold RW.keyV at hh
    rw [if_pos (by omega), hk] at hh
    simp [RW.keyK] at hh
    rw [hk] at c0
    have hkH := hide hk
    have hhH := hide hh
    clear hk hh
    go_upto_region 6 with fail
    go_quiet (fail)
    go_wp2_with (refine wpList_store_row rfl 28 (.tmp 2) (.tmp 52) rfl z #[.int .i64 2, .int .i64 (f 6), .int .i64 (f 1)] rfl rfl 28 _ hZH.out hi3 rfl (by simp [Value.oneCell']) ?_)
    refine bodyPost_ret (results_cell_row rfl _ _ z 28 #[.int .i64 2, .int .i64 (f 6), .int .i64 (f 1)] (0, 0) _ rfl (setRow_heap _ _ _ _ _ _ hZH.out) Tryd.underlying28 rfl hi3) rfl ⟨by rw [hkH.out, ← hhH.out.1, ← hhH.out.2], by first | exact RW.below_setRow hBW.out hle.out _ | exact RW.below_setRow (RW.below_drewN hBW.out) hle.out _⟩
  · have hh := hpqH.out
    unfold RW.keyV at hh
    rw [if_pos (by omega), hk] at hh
    simp [RW.keyK] at hh
    rw [hk] at c0
    have hkH := hide hk
    have hhH := hide hh
    clear hk hh
    go_wp2_with (refine wpList_store_row rfl 28 (.tmp 2) (.tmp 52) rfl z #[.int .i64 3, .int .i64 (f 1), .int .i64 0] rfl rfl 28 _ hZH.out hi3 rfl (by simp [Value.oneCell']) ?_)
    refine bodyPost_ret (results_cell_row rfl _ _ z 28 #[.int .i64 3, .int .i64 (f 1), .int .i64 0] (0, 0) _ rfl (setRow_heap _ _ _ _ _ _ hZH.out) Tryd.underlying28 rfl hi3) rfl ⟨by rw [hkH.out, ← hhH.out.1, ← hhH.out.2], by first | exact RW.below_setRow hBW.out hle.out _ | exact RW.below_setRow (RW.below_drewN hBW.out) hle.out _⟩
  · have hh := hpqH.out
    unfold RW.keyV at hh
    rw [if_pos (by omega), hk] at hh
    simp [RW.keyK] at hh
    rw [hk] at c0
    have hkH := hide hk
    have hhH := hide hh
    clear hk hh
    go_upto_region 12 with fail
    go_quiet (fail)
    go_wp2_with (refine wpList_store_row rfl 28 (.tmp 2) (.tmp 52) rfl z #[.int .i64 4, .int .i64 (f 9), .int .i64 (f 11)] rfl rfl 28 _ hZH.out hi3 rfl (by simp [Value.oneCell']) ?_)
    refine bodyPost_ret (results_cell_row rfl _ _ z 28 #[.int .i64 4, .int .i64 (f 9), .int .i64 (f 11)] (0, 0) _ rfl (setRow_heap _ _ _ _ _ _ hZH.out) Tryd.underlying28 rfl hi3) rfl ⟨by rw [hkH.out, ← hhH.out.1, ← hhH.out.2], by first | exact RW.below_setRow hBW.out hle.out _ | exact RW.below_setRow (RW.below_drewN hBW.out) hle.out _⟩
  · have hh := hpqH.out
    unfold RW.keyV at hh
    rw [if_pos (by omega), hk] at hh
    simp [RW.keyK] at hh
    rw [hk] at c0
    have hkH := hide hk
    have hhH := hide hh
    clear hk hh
    go_wp2_with (refine wpList_store_row rfl 28 (.tmp 2) (.tmp 52) rfl z #[.int .i64 5, .int .i64 (f 1), .int .i64 0] rfl rfl 28 _ hZH.out hi3 rfl (by simp [Value.oneCell']) ?_)
    refine bodyPost_ret (results_cell_row rfl _ _ z 28 #[.int .i64 5, .int .i64 (f 1), .int .i64 0] (0, 0) _ rfl (setRow_heap _ _ _ _ _ _ hZH.out) Tryd.underlying28 rfl hi3) rfl ⟨by rw [hkH.out, ← hhH.out.1, ← hhH.out.2], by first | exact RW.below_setRow hBW.out hle.out _ | exact RW.below_setRow (RW.below_drewN hBW.out) hle.out _⟩
  · have hh := hpqH.out
    unfold RW.keyV at hh
    rw [if_pos (by omega), hk] at hh
    simp [RW.keyK] at hh
    rw [hk] at c0
    have hkH := hide hk
    have hhH := hide hh
    clear hk hh
    go_upto_region 14 with fail
    go_quiet (fail)
    go_wp2_with (refine wpList_store_row rfl 28 (.tmp 2) (.tmp 52) rfl z #[.int .i64 6, .int .i64 (f 5), .int .i64 (f 3)] rfl rfl 28 _ hZH.out hi3 rfl (by simp [Value.oneCell']) ?_)
    refine bodyPost_ret (results_cell_row rfl _ _ z 28 #[.int .i64 6, .int .i64 (f 5), .int .i64 (f 3)] (0, 0) _ rfl (setRow_heap _ _ _ _ _ _ hZH.out) Tryd.underlying28 rfl hi3) rfl ⟨by rw [hkH.out, ← hhH.out.1, ← hhH.out.2], by first | exact RW.below_setRow hBW.out hle.out _ | exact RW.below_setRow (RW.below_drewN hBW.out) hle.out _⟩
  · have hh := hpqH.out
    unfold RW.keyV at hh
    rw [if_pos (by omega), hk] at hh
    simp [RW.keyK] at hh
    rw [hk] at c0
    have hkH := hide hk
    have hhH := hide hh
    clear hk hh
    go_upto_region 16 with fail
    go_quiet (fail)
    go_wp2_with (refine wpList_store_row rfl 28 (.tmp 2) (.tmp 52) rfl z #[.int .i64 7, .int .i64 (f 15), .int .i64 (f 3)] rfl rfl 28 _ hZH.out hi3 rfl (by simp [Value.oneCell']) ?_)
    refine bodyPost_ret (results_cell_row rfl _ _ z 28 #[.int .i64 7, .int .i64 (f 15), .int .i64 (f 3)] (0, 0) _ rfl (setRow_heap _ _ _ _ _ _ hZH.out) Tryd.underlying28 rfl hi3) rfl ⟨by rw [hkH.out, ← hhH.out.1, ← hhH.out.2], by first | exact RW.below_setRow hBW.out hle.out _ | exact RW.below_setRow (RW.below_drewN hBW.out) hle.out _⟩
  · have hh := hpqH.out
    unfold RW.keyV at hh
    rw [if_pos (by omega), hk] at hh
    simp [RW.keyK] at hh
    rw [hk] at c0
    have hkH := hide hk
    have hhH := hide hh
    clear hk hh
    go_wp2_with (refine wpList_store_row rfl 28 (.tmp 2) (.tmp 52) rfl z #[.int .i64 8, .int .i64 (f 1), .int .i64 0] rfl rfl 28 _ hZH.out hi3 rfl (by simp [Value.oneCell']) ?_)
    refine bodyPost_ret (results_cell_row rfl _ _ z 28 #[.int .i64 8, .int .i64 (f 1), .int .i64 0] (0, 0) _ rfl (setRow_heap _ _ _ _ _ _ hZH.out) Tryd.underlying28 rfl hi3) rfl ⟨by rw [hkH.out, ← hhH.out.1, ← hhH.out.2], by first | exact RW.below_setRow hBW.out hle.out _ | exact RW.below_setRow (RW.below_drewN hBW.out) hle.out _⟩
  · have hh := hpqH.out
    unfold RW.keyV at hh
    rw [if_pos (by omega), hk] at hh
    simp [RW.keyK] at hh
    rw [hk] at c0
    have hkH := hide hk
    have hhH := hide hh
    clear hk hh
    go_wp2_with (refine wpList_store_row rfl 28 (.tmp 2) (.tmp 52) rfl z #[.int .i64 9, .int .i64 (f 11), .int .i64 0] rfl rfl 28 _ hZH.out hi3 rfl (by simp [Value.oneCell']) ?_)
    refine bodyPost_ret (results_cell_row rfl _ _ z 28 #[.int .i64 9, .int .i64 (f 11), .int .i64 0] (0, 0) _ rfl (setRow_heap _ _ _ _ _ _ hZH.out) Tryd.underlying28 rfl hi3) rfl ⟨by rw [hkH.out, ← hhH.out.1, ← hhH.out.2], by first | exact RW.below_setRow hBW.out hle.out _ | exact RW.below_setRow (RW.below_drewN hBW.out) hle.out _⟩
  · have hh := hpqH.out
    unfold RW.keyV at hh
    rw [if_pos (by omega), hk] at hh
    simp [RW.keyK] at hh
    rw [hk] at c0
    have hkH := hide hk
    have hhH := hide hh
    clear hk hh
    go_upto_region 20 with fail
    go_quiet (fail)
    go_wp2_with (refine wpList_store_row rfl 28 (.tmp 2) (.tmp 52) rfl z #[.int .i64 10, .int .i64 (f 8), .int .i64 (f 11)] rfl rfl 28 _ hZH.out hi3 rfl (by simp [Value.oneCell']) ?_)
    refine bodyPost_ret (results_cell_row rfl _ _ z 28 #[.int .i64 10, .int .i64 (f 8), .int .i64 (f 11)] (0, 0) _ rfl (setRow_heap _ _ _ _ _ _ hZH.out) Tryd.underlying28 rfl hi3) rfl ⟨by rw [hkH.out, ← hhH.out.1, ← hhH.out.2], by first | exact RW.below_setRow hBW.out hle.out _ | exact RW.below_setRow (RW.below_drewN hBW.out) hle.out _⟩
  · have hh := hpqH.out
    unfold RW.keyV at hh
    rw [if_neg (by omega)] at hh
    simp at hh
    have n1 : ∀ k : Int, 1 ≤ k → k ≤ 10 → (f 0 == k) = false := fun k h1 h2 => by rw [beq_eq_false_iff_ne]; omega
    have e1 := n1 1 (by decide) (by decide); have e2 := n1 2 (by decide) (by decide); have e3 := n1 3 (by decide) (by decide); have e4 := n1 4 (by decide) (by decide); have e5 := n1 5 (by decide) (by decide)
    have e6 := n1 6 (by decide) (by decide); have e7 := n1 7 (by decide) (by decide); have e8 := n1 8 (by decide) (by decide); have e9 := n1 9 (by decide) (by decide); have e10 := n1 10 (by decide) (by decide)
    have hhH := hide hh
    clear hk hh n1
    go_wp2_with (refine wpList_store_row rfl 28 (.tmp 2) (.tmp 52) rfl z #[.int .i64 (f 0), .int .i64 0, .int .i64 0] rfl rfl 28 _ hZH.out hi3 rfl (by simp [Value.oneCell']) ?_)
    refine bodyPost_ret (results_cell_row rfl _ _ z 28 #[.int .i64 (f 0), .int .i64 0, .int .i64 0] (0, 0) _ rfl (setRow_heap _ _ _ _ _ _ hZH.out) Tryd.underlying28 rfl hi3) rfl ⟨by rw [← hhH.out.1, ← hhH.out.2], by first | exact RW.below_setRow hBW.out hle.out _ | exact RW.below_setRow (RW.below_drewN hBW.out) hle.out _⟩
end Go.Proofs.YtpihhjpgdbcifaaDoor

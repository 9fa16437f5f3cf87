/-
  Package ballot: Faults, Quorum, isSite, isVote, and their like in the reference: what each returns; no condition.
-/
import Derived.WalkKit
import Derived.WalkLawsBesides
import Derived.Test.YtcbckcojebanaaaDoorBalP
namespace Go.Proofs.YtcbckcojebanaaaDoor
open Go.RowKit
namespace RW
def faults (n : Int) : Int := if 1 ≤ n ∧ n ≤ 7 then (n - 1) / 3 else 0
def quorum (n : Int) : Int := if 1 ≤ n ∧ n ≤ 7 then n - (n - 1) / 3 else 0
end RW
set_option maxHeartbeats 1000000 in
theorem faults_any (n : Int) (w : World) : Calls Tryd.prog 18 #[.int .i64 n] w fun e w' => e = .returned (.int .i64 (RW.faults n)) ∧ w = w' := by
  obtain ⟨r, hr⟩ : ∃ r, r = RW.faults n := ⟨_, rfl⟩
  rw [← hr]
  have hrH := hide hr
  clear hr
  by_cases h1 : n < 1
  · go_enter Tryd.func18, Tryd.ntmps18
    go_wp2
    go_ret
    exact ⟨by rw [hrH.out, RW.faults, if_neg (by omega)] <;> rfl, rfl⟩
  · by_cases h2 : 7 < n
    · go_enter Tryd.func18, Tryd.ntmps18
      go_wp2
      go_ret
      exact ⟨by rw [hrH.out, RW.faults, if_neg (by omega)] <;> rfl, rfl⟩
    · have h3 : 1 ≤ n := by omega
      have h4 : n ≤ 7 := by omega
      have h5 : 0 ≤ n - 1 := by omega
      go_enter Tryd.func18, Tryd.ntmps18
      go_wp2
      go_ret
      exact ⟨by rw [hrH.out, RW.faults, if_pos ⟨h3, h4⟩] <;> rfl, rfl⟩
set_option maxHeartbeats 1000000 in
theorem rfaults_any (n : Int) (w : World) : Calls Tryd.prog 19 #[.int .i64 n] w fun e w' => e = .returned (.int .i64 (RW.faults n)) ∧ w = w' := by
  obtain ⟨r, hr⟩ : ∃ r, r = RW.faults n := ⟨_, rfl⟩
  rw [← hr]
  have hrH := hide hr
  clear hr
  by_cases h1 : n < 1
  · go_enter Tryd.func19, Tryd.ntmps19
    go_wp2
    go_ret
    exact ⟨by rw [hrH.out, RW.faults, if_neg (by omega)] <;> rfl, rfl⟩
  · by_cases h2 : 7 < n
    · go_enter Tryd.func19, Tryd.ntmps19
      go_wp2
      go_ret
      exact ⟨by rw [hrH.out, RW.faults, if_neg (by omega)] <;> rfl, rfl⟩
    · have h3 : 1 ≤ n := by omega
      have h4 : n ≤ 7 := by omega
      have h5 : 0 ≤ n - 1 := by omega
      go_enter Tryd.func19, Tryd.ntmps19
      go_wp2
      go_ret
      exact ⟨by rw [hrH.out, RW.faults, if_pos ⟨h3, h4⟩] <;> rfl, rfl⟩
set_option maxHeartbeats 1000000 in
theorem quorum_any (n : Int) (w : World) : Calls Tryd.prog 20 #[.int .i64 n] w fun e w' => e = .returned (.int .i64 (RW.quorum n)) ∧ w = w' := by
  obtain ⟨r, hr⟩ : ∃ r, r = RW.quorum n := ⟨_, rfl⟩
  rw [← hr]
  have hrH := hide hr
  clear hr
  by_cases h1 : n < 1
  · go_enter Tryd.func20, Tryd.ntmps20
    go_wp2
    go_ret
    exact ⟨by rw [hrH.out, RW.quorum, if_neg (by omega)] <;> rfl, rfl⟩
  · by_cases h2 : 7 < n
    · go_enter Tryd.func20, Tryd.ntmps20
      go_wp2
      go_ret
      exact ⟨by rw [hrH.out, RW.quorum, if_neg (by omega)] <;> rfl, rfl⟩
    · have h3 : 1 ≤ n := by omega
      have h4 : n ≤ 7 := by omega
      obtain ⟨q, hq⟩ : ∃ q, q = RW.faults n := ⟨_, rfl⟩
      have hq2 : q = (n - 1) / 3 := by rw [hq, RW.faults, if_pos ⟨h3, h4⟩]
      have hF : ∀ W, Calls Tryd.prog 18 #[.int .i64 n] W fun e w' => e = .returned (.int .i64 q) ∧ W = w' := fun W => by rw [hq]; exact faults_any n W
      have hFH := hide hF
      have hq2H := hide hq2
      have hb1 : 0 ≤ n - q := by omega
      have hb2 : n - q ≤ 7 := by omega
      clear hF hq hq2
      go_enter Tryd.func20, Tryd.ntmps20
      go_wp2_with (go_at_call 18; refine (hFH.out _).mono ?_; rintro e w' ⟨rfl, rfl⟩)
      go_ret
      exact ⟨by rw [hrH.out, RW.quorum, if_pos ⟨h3, h4⟩, hq2H.out] <;> rfl, rfl⟩
set_option maxHeartbeats 1000000 in
theorem rquorum_any (n : Int) (w : World) : Calls Tryd.prog 21 #[.int .i64 n] w fun e w' => e = .returned (.int .i64 (RW.quorum n)) ∧ w = w' := by
  obtain ⟨r, hr⟩ : ∃ r, r = RW.quorum n := ⟨_, rfl⟩
  rw [← hr]
  have hrH := hide hr
  clear hr
  by_cases h1 : n < 1
  · go_enter Tryd.func21, Tryd.ntmps21
    go_wp2
    go_ret
    exact ⟨by rw [hrH.out, RW.quorum, if_neg (by omega)] <;> rfl, rfl⟩
  · by_cases h2 : 7 < n
    · go_enter Tryd.func21, Tryd.ntmps21
      go_wp2
      go_ret
      exact ⟨by rw [hrH.out, RW.quorum, if_neg (by omega)] <;> rfl, rfl⟩
    · have h3 : 1 ≤ n := by omega
      have h4 : n ≤ 7 := by omega
      obtain ⟨q, hq⟩ : ∃ q, q = RW.faults n := ⟨_, rfl⟩
      have hq2 : q = (n - 1) / 3 := by rw [hq, RW.faults, if_pos ⟨h3, h4⟩]
      have hF : ∀ W, Calls Tryd.prog 19 #[.int .i64 n] W fun e w' => e = .returned (.int .i64 q) ∧ W = w' := fun W => by rw [hq]; exact rfaults_any n W
      have hFH := hide hF
      have hq2H := hide hq2
      have hb1 : 0 ≤ n - q := by omega
      have hb2 : n - q ≤ 7 := by omega
      clear hF hq hq2
      go_enter Tryd.func21, Tryd.ntmps21
      go_wp2_with (go_at_call 19; refine (hFH.out _).mono ?_; rintro e w' ⟨rfl, rfl⟩)
      go_ret
      exact ⟨by rw [hrH.out, RW.quorum, if_pos ⟨h3, h4⟩, hq2H.out] <;> rfl, rfl⟩
set_option maxHeartbeats 1000000 in
theorem site_any (n : Int) (w : World) : Calls Tryd.prog 47 #[.int .i64 n] w fun e w' => e = .returned (.bool (RW.site n)) ∧ w = w' := by
  obtain ⟨r, hr⟩ : ∃ r, r = RW.site n := ⟨_, rfl⟩
  rw [← hr]
  have hrH := hide hr
  clear hr
  by_cases h1 : 0 ≤ n
  · by_cases h2 : n < 7
    · go_enter Tryd.func47, Tryd.ntmps47
      go_wp2
      go_ret
      exact ⟨by rw [hrH.out]; simp [RW.site, h1, h2] <;> rfl, rfl⟩
    · go_enter Tryd.func47, Tryd.ntmps47
      go_wp2
      go_ret
      exact ⟨by rw [hrH.out]; simp [RW.site, h2] <;> rfl, rfl⟩
  · go_enter Tryd.func47, Tryd.ntmps47
    go_wp2
    go_ret
    exact ⟨by rw [hrH.out]; simp [RW.site]; omega, rfl⟩
set_option maxHeartbeats 1000000 in
theorem vote_any (n : Int) (w : World) : Calls Tryd.prog 51 #[.int .i64 n] w fun e w' => e = .returned (.bool (RW.voteK n)) ∧ w = w' := by
  obtain ⟨r, hr⟩ : ∃ r, r = RW.voteK n := ⟨_, rfl⟩
  rw [← hr]
  have hrH := hide hr
  clear hr
  have h : n = 4 ∨ n = 5 ∨ n = 6 ∨ (n < 4 ∨ 6 < n) := by omega
  rcases h with rfl | rfl | rfl | h
  · go_enter Tryd.func51, Tryd.ntmps51
    go_wp2
    go_ret
    exact ⟨by rw [hrH.out] <;> rfl, rfl⟩
  · go_enter Tryd.func51, Tryd.ntmps51
    go_wp2
    go_ret
    exact ⟨by rw [hrH.out] <;> rfl, rfl⟩
  · go_enter Tryd.func51, Tryd.ntmps51
    go_wp2
    go_ret
    exact ⟨by rw [hrH.out] <;> rfl, rfl⟩
  · have e4 : (n == 4) = false := by simp; omega
    have e5 : (n == 5) = false := by simp; omega
    have e6 : (n == 6) = false := by simp; omega
    have hv : RW.voteK n = false := by simp [RW.voteK]; omega
    have hvH := hide hv
    clear hv h
    go_enter Tryd.func51, Tryd.ntmps51
    go_wp2
    go_ret
    exact ⟨by rw [hrH.out, hvH.out] <;> rfl, rfl⟩
end Go.Proofs.YtcbckcojebanaaaDoor

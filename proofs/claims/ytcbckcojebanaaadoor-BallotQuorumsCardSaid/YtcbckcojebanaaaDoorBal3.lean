/-
  Package ballot: ascending of nothing; slices.ContainsFunc with Valid's closure; slices.Equal at strings: what they return; no memory that was there is written.
-/
import Derived.Deep.QuietTactic
import Derived.BigQuiet
import Derived.Test.YtcbckcojebanaaaDoorBal2
namespace Go.Proofs.YtcbckcojebanaaaDoor
open Go.RowKit
namespace RW
def longB (s : ByteArray) : Bool := decide (s.size < 1 ∨ 4000 < s.size)
theorem any_take (l : List ByteArray) (f : ByteArray → Bool) (k : Nat) (h : k < l.length) : (l.take (k + 1)).any f = ((l.take k).any f || f (l.getD k ⟨#[]⟩)) := by
  rw [List.take_succ_eq_append_getElem h, List.any_append]
  simp [List.getD, List.getElem?_eq_getElem h]
theorem any_yes (l : List ByteArray) (f : ByteArray → Bool) (k : Nat) (h : k < l.length) (hf : f (l.getD k ⟨#[]⟩) = true) : l.any f = true := by
  rw [List.any_eq_true]
  exact ⟨l[k], List.getElem_mem h, by simpa [List.getD, List.getElem?_eq_getElem h] using hf⟩
end RW
set_option maxHeartbeats 1000000 in
theorem asc_none (a : Option Addr) (cap : Nat) (w : World) : Calls Tryd.prog 50 #[.slice a 0 cap] w fun e w' => e = .returned (.bool (RW.asc (RW.bl []))) ∧ w = w' := by
  go_enter Tryd.func50, Tryd.ntmps50
  go_wp2
  refine wp_loop_rounds 1 ?_
  rw [rounds_succ]
  go_wp2
  go_ret
  exact ⟨rfl, rfl⟩
set_option maxHeartbeats 1000000 in
theorem long_any (s : ByteArray) (hs : s.size ≤ 9223372036854775807) (w : World) : Calls Tryd.prog 49 #[.string s] w fun e w' => e = .returned (.bool (RW.longB s)) ∧ w = w' := by
  obtain ⟨r, hr⟩ : ∃ r, r = RW.longB s := ⟨_, rfl⟩
  rw [← hr]
  have hrH := hide hr
  clear hr
  by_cases h1 : s.size < 1
  · have h1' : (s.size : Int) < 1 := by omega
    have e := hide (show RW.longB s = true from decide_eq_true (by omega))
    go_enter Tryd.func49, Tryd.ntmps49
    go_wp2
    go_ret
    exact ⟨by rw [hrH.out, e.out] <;> rfl, rfl⟩
  · have h1' : ¬ (s.size : Int) < 1 := by omega
    by_cases h2 : 4000 < s.size
    · have h2' : (4000 : Int) < (s.size : Int) := by omega
      have e := hide (show RW.longB s = true from decide_eq_true (by omega))
      go_enter Tryd.func49, Tryd.ntmps49
      go_wp2
      go_ret
      exact ⟨by rw [hrH.out, e.out] <;> rfl, rfl⟩
    · have h2' : ¬ (4000 : Int) < (s.size : Int) := by omega
      have e := hide (show RW.longB s = false from decide_eq_false (by omega))
      go_enter Tryd.func49, Tryd.ntmps49
      go_wp2
      go_ret
      exact ⟨by rw [hrH.out, e.out] <;> rfl, rfl⟩
def IdxPost (l : List ByteArray) (w : World) (e : Ending) (w' : World) : Prop := ∃ n : Int, e = .returned (.int .i64 n) ∧ decide (0 ≤ n) = l.any RW.longB ∧ w = w'
set_option maxRecDepth 10000 in
set_option maxHeartbeats 2000000 in
theorem index_any (b o cap : Nat) (l : List ByteArray) (hl : l.length ≤ 140737488355328) (hs : ∀ s ∈ l, s.size ≤ 9223372036854775807) (w : World) (hc : ∀ i, i < l.length → w.cell? ⟨b, o + i, none⟩ = some (.string (l.getD i ⟨#[]⟩))) :
    Calls Tryd.prog 67 #[.slice (some ⟨b, o, none⟩) l.length cap, .func (.func 49) #[] #[]] w (IdxPost l w) := by
  have hcH := hide hc
  have hsH := hide hs
  clear hc hs
  obtain ⟨n, hn⟩ : ∃ n, n = l.length := ⟨_, rfl⟩
  rw [← hn] at hl ⊢
  have hnH := hide hn
  clear hn
  go_enter Tryd.func67, Tryd.ntmps67
  go_wp2
  go_loop [8] (fun i => ∃ k : Nat, k ≤ n ∧ i = .int .i64 k ∧ Hid ((l.take k).any RW.longB = false)) (fun i => n - (intOf i).toNat)
  case atStart => exact ⟨0, Nat.zero_le _, rfl, rfl⟩
  case round =>
    obtain ⟨k, hk, rfl, ha⟩ := hrel
    by_cases hlt : k < n
    · have hkl : k < l.length := by rw [← hnH.out]; exact hlt
      have ck := hcH.out k hkl
      have hst := RW.any_take l RW.longB k hkl
      rw [ha.out, Bool.false_or] at hst
      have hy := RW.any_yes l RW.longB k hkl
      have hsz := hsH.out (l.getD k ⟨#[]⟩) (by rw [List.getD, List.getElem?_eq_getElem hkl]; exact List.getElem_mem hkl)
      obtain ⟨s, hsd⟩ : ∃ s, s = l.getD k ⟨#[]⟩ := ⟨_, rfl⟩
      rw [← hsd] at ck hst hy hsz
      have hL := fun W => long_any s hsz W
      obtain ⟨q, hq⟩ : ∃ q, q = RW.longB s := ⟨_, rfl⟩
      rw [← hq] at hst hy hL
      have hLH := hide hL
      have hstH := hide hst
      have hyH := hide hy
      clear hsd hq hL hst hy hsz
      cases q
      · go_wp2_with (go_at_call 49; refine (hLH.out _).mono ?_; rintro e w' ⟨rfl, rfl⟩)
        go_round
        case rel => exact ⟨k + 1, by omega, by go_num, hstH.out⟩
        case measure => simp [intOf]; omega
      · have hA := hide (hyH.out rfl)
        go_wp2_with (go_at_call 49; refine (hLH.out _).mono ?_; rintro e w' ⟨rfl, rfl⟩)
        go_ret
        exact ⟨k, rfl, by rw [hA.out]; simp, rfl⟩
    · obtain rfl : k = n := by omega
      have hA : l.any RW.longB = false := by
        have h1 := ha.out
        rwa [List.take_of_length_le (by rw [hnH.out]; exact Nat.le_refl _)] at h1
      have hAH := hide hA
      clear hA
      go_wp2
      go_ret
      exact ⟨-1, rfl, by rw [hAH.out]; rfl, rfl⟩
set_option maxHeartbeats 1000000 in
theorem contains_any (b o cap : Nat) (l : List ByteArray) (hl : l.length ≤ 140737488355328) (hs : ∀ s ∈ l, s.size ≤ 9223372036854775807) (w : World) (hc : ∀ i, i < l.length → w.cell? ⟨b, o + i, none⟩ = some (.string (l.getD i ⟨#[]⟩))) :
    Calls Tryd.prog 48 #[.slice (some ⟨b, o, none⟩) l.length cap, .func (.func 49) #[] #[]] w fun e w' => e = .returned (.bool (l.any RW.longB)) ∧ w = w' := by
  have hI := hide (index_any b o cap l hl hs w hc)
  obtain ⟨q, hq⟩ : ∃ q, q = l.any RW.longB := ⟨_, rfl⟩
  rw [← hq]
  have hqH := hide hq
  clear hq hc hs
  go_enter Tryd.func48, Tryd.ntmps48
  go_wp2_with (go_at_call 67; refine hI.out.mono ?_; rintro e w' ⟨n, rfl, hn, rfl⟩; rw [← hqH.out] at hn)
  go_ret
  exact ⟨by first | rfl | (rw [hn] <;> rfl), rfl⟩
end Go.Proofs.YtcbckcojebanaaaDoor

/-
  slices.Equal at strings: what it returns; the world as it was, some draws on.
-/
import Derived.Test.YtcbckcojebanaaaDoorBal3
namespace Go.Proofs.YtcbckcojebanaaaDoor
open Go.RowKit
namespace RW
theorem bytes_ne {s t : ByteArray} (h : s ≠ t) : (s.toList == t.toList) = false := by
  cases e : (s.toList == t.toList)
  · rfl
  · rw [beq_iff_eq, ByteArray.toList_eq, ByteArray.toList_eq] at e
    exact absurd (ByteArray.ext (Array.ext' e)) h
theorem take_eq (l m : List ByteArray) (k : Nat) (h1 : k < l.length) (h2 : k < m.length) (he : l.take k = m.take k) (hx : l.getD k ⟨#[]⟩ = m.getD k ⟨#[]⟩) : l.take (k + 1) = m.take (k + 1) := by
  rw [List.take_succ_eq_append_getElem h1, List.take_succ_eq_append_getElem h2, he]
  simp only [List.getD, List.getElem?_eq_getElem h1, List.getElem?_eq_getElem h2, Option.getD_some] at hx
  rw [hx]
theorem getD_ne (l m : List ByteArray) (k : Nat) (hx : l.getD k ⟨#[]⟩ ≠ m.getD k ⟨#[]⟩) : decide (l = m) = false := decide_eq_false (fun h => hx (by rw [h]))
end RW
def EqlPost (q : Bool) (w : World) (e : Ending) (w' : World) : Prop := e = .returned (.bool q) ∧ ∃ n, w' = w.drewN n
set_option maxRecDepth 10000 in
set_option maxHeartbeats 2000000 in
theorem equal_len (a1 a2 : Option Addr) (n1 n2 c1 c2 : Nat) (h1 : n1 ≤ 140737488355328) (h2 : n2 ≤ 140737488355328) (hne : n1 ≠ n2) (w : World) :
    Calls Tryd.prog 54 #[.slice a1 n1 c1, .slice a2 n2 c2] w (EqlPost false w) := by
  have e1 : ((n1 : Int) != (n2 : Int)) = true := by simp; omega
  have e2 : (n1 != n2) = true := by simp; omega
  have hneH := hide hne
  clear hne
  go_enter Tryd.func54, Tryd.ntmps54
  go_wp2
  go_ret
  exact ⟨rfl, 0, rfl⟩
set_option maxRecDepth 10000 in
set_option maxHeartbeats 1000000 in
theorem equal_none (a1 a2 : Option Addr) (c1 c2 : Nat) (w : World) : Calls Tryd.prog 54 #[.slice a1 0 c1, .slice a2 0 c2] w (EqlPost true w) := by
  go_enter Tryd.func54, Tryd.ntmps54
  go_wp2
  refine wp_loop_rounds 1 ?_
  rw [rounds_succ]
  go_wp2
  go_ret
  exact ⟨rfl, 0, rfl⟩
set_option maxRecDepth 10000 in
set_option maxHeartbeats 2000000 in
theorem equal_any (b1 o1 c1 b2 o2 c2 : Nat) (l m : List ByteArray) (hl : l.length ≤ 140737488355328) (hm : m.length = l.length) (w : World)
    (hc1 : ∀ i, i < l.length → w.cell? ⟨b1, o1 + i, none⟩ = some (.string (l.getD i ⟨#[]⟩))) (hc2 : ∀ i, i < l.length → w.cell? ⟨b2, o2 + i, none⟩ = some (.string (m.getD i ⟨#[]⟩))) :
    Calls Tryd.prog 54 #[.slice (some ⟨b1, o1, none⟩) l.length c1, .slice (some ⟨b2, o2, none⟩) l.length c2] w (EqlPost (decide (l = m)) w) := by
  have h1H := hide hc1
  have h2H := hide hc2
  have hmH := hide hm
  obtain ⟨q, hq⟩ : ∃ q, q = decide (l = m) := ⟨_, rfl⟩
  rw [← hq]
  have hqH := hide hq
  obtain ⟨n, hn⟩ : ∃ n, n = l.length := ⟨_, rfl⟩
  rw [← hn] at hl ⊢
  have hnH := hide hn
  clear hc1 hc2 hq hn hm
  go_enter Tryd.func54, Tryd.ntmps54
  go_wp2
  go_loopw [13] (fun i wr => ∃ k : Nat, k ≤ n ∧ i = .int .i64 k ∧ Hid (l.take k = m.take k) ∧ ∃ q, wr = w.drewN q) (fun i _ => n - (intOf i).toNat)
  case atStart => exact ⟨0, Nat.zero_le _, rfl, rfl, 0, rfl⟩
  case round =>
    obtain ⟨k, hk, rfl, ha, d, hd⟩ := hrel
    have hdH := hide hd
    clear hd
    by_cases hlt : k < n
    · have hkl : k < l.length := by rw [← hnH.out]; exact hlt
      have x1 : wr.cell? ⟨b1, o1 + k, none⟩ = some (.string (l.getD k ⟨#[]⟩)) := by rw [hdH.out]; exact h1H.out k hkl
      have x2 : wr.cell? ⟨b2, o2 + k, none⟩ = some (.string (m.getD k ⟨#[]⟩)) := by rw [hdH.out]; exact h2H.out k hkl
      have hst := hide (RW.take_eq l m k hkl (by rw [hmH.out]; exact hkl) ha.out)
      have hno := hide (RW.getD_ne l m k)
      obtain ⟨s, hs⟩ : ∃ s, s = l.getD k ⟨#[]⟩ := ⟨_, rfl⟩
      obtain ⟨t, ht⟩ : ∃ t, t = m.getD k ⟨#[]⟩ := ⟨_, rfl⟩
      rw [← hs] at x1
      rw [← ht] at x2
      have hsH := hide hs
      have htH := hide ht
      clear hs ht
      by_cases he : s = t
      · have hst2 := hide (hst.out (by rw [← hsH.out, ← htH.out, he]))
        subst he
        go_wp2
        go_quiet (fail)
        go_wp2
        go_roundw
        case rel => exact ⟨k + 1, by omega, by go_num, hst2.out, _, by rw [hdH.out]; exact World.drewN_drewN _ _ _⟩
        case measure => simp [intOf]; omega
      · have hno2 := hide (hno.out (by rw [← hsH.out, ← htH.out]; exact he))
        have e1 := RW.bytes_ne he
        have e2 : (s.toList != t.toList) = true := by simp only [bne, e1]; rfl
        have heH := hide he
        clear he
        go_wp2
        go_quiet (fail)
        go_wp2
        go_ret
        exact ⟨by rw [hqH.out, hno2.out] <;> rfl, _, by rw [hdH.out]; exact World.drewN_drewN _ _ _⟩
    · obtain rfl : k = n := by omega
      have hA : l = m := by
        have h1 := ha.out
        rwa [List.take_of_length_le (by rw [hnH.out]; exact Nat.le_refl _), List.take_of_length_le (by rw [hmH.out, hnH.out]; exact Nat.le_refl _)] at h1
      have hAH := hide (show q = true by rw [hqH.out]; exact decide_eq_true hA)
      clear hA
      go_wp2
      go_ret
      exact ⟨by rw [hAH.out] <;> rfl, d, hdH.out⟩
end Go.Proofs.YtcbckcojebanaaaDoor

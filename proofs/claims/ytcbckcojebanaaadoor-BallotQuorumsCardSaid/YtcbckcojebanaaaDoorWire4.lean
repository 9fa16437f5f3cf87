/-
  The walks of royaltyref01.String, PutString and of wire.PutString: what each returns; old memory as it was.
-/
import Derived.Test.YtcbckcojebanaaaDoorWire3
namespace Go.Proofs.YtcbckcojebanaaaDoor
open Go.RowKit Go.Shelf
set_option maxRecDepth 10000 in
set_option maxHeartbeats 1000000 in
theorem rstr_walk (s : ByteArray) (at_ : Nat) (w : World) (hs : s.size ≤ 9223372036854775807 - 10) (ha : at_ ≤ s.size) :
    Calls Tryd.prog 58 #[.string s, .int .i64 at_] w fun e w' =>
      e = .returned (strRes at_ (RW.decS (s.data.toList.drop at_))) ∧ Below w.heap.size w w' := by
  have hc := rint_walk s at_ w hs ha
  rcases hI : RW.decI (s.data.toList.drop at_) with _ | ⟨n, k⟩
  · rw [hI] at hc
    have hS := hide (RW.decS_none _ hI); clear hI
    have hcH := hide hc; clear hc
    go_enter Tryd.func58, Tryd.ntmps58
    go_wp2_with (go_at_call 57; refine hcH.out.mono ?_; rintro e w' ⟨rfl, hB⟩; unfold intRes)
    go_ret3
    exact ⟨by rw [hS.out]; rfl, hB⟩
  · rw [hI] at hc
    have hS := hide (RW.decS_some _ _ _ hI)
    have hk := RW.decI_le _ _ _ hI
    have hn := RW.decI_bd _ _ _ hI
    have hl : (s.data.toList.drop at_).length = s.size - at_ := by simp
    rw [hl] at hk
    have hS2 : Hid (RW.decS (s.data.toList.drop at_) = if n < 0 ∨ 65536 < n ∨ (s.size : Int) - at_ - k < n then none else some (((s.data.toList.drop at_).drop k).take n.toNat, k + n.toNat)) := by
      rw [hS.out, hl]; rw [show ((s.size - at_ : Nat) : Int) = (s.size : Int) - at_ by omega]; exact rfl
    clear hS hI hl
    have hcH := hide hc; clear hc
    by_cases hg : 0 ≤ n ∧ n ≤ 65536 ∧ n ≤ (s.size : Int) - at_ - k
    · obtain ⟨m, rfl⟩ := Int.eq_ofNat_of_zero_le hg.1
      have hg2 : m ≤ 65536 := by omega
      have hg3 : at_ + k + m ≤ s.size := by omega
      clear hg
      have hg4 : (0 : Int) ≤ (at_ : Int) + k := by omega
      have hg5 : (at_ : Int) + k ≤ (at_ : Int) + k + m := by omega
      have hg6 : (at_ : Int) + k + m ≤ (s.size : Int) := by omega
      go_enter Tryd.func58, Tryd.ntmps58
      go_wp2_with (go_at_call 57; refine hcH.out.mono ?_; rintro e w' ⟨rfl, hB⟩; unfold intRes)
      go_ret3
      refine ⟨?_, hB⟩
      rw [hS2.out, if_neg (by omega)]
      simp only [strRes, Int.toNat_natCast, List.drop_drop]
      have e := RW.extract_eq s (at_ + k) (at_ + k + m) hg3
      rw [show at_ + k + m - (at_ + k) = m by omega] at e
      rw [← e]
      simp [Int.add_assoc]
    · go_enter Tryd.func58, Tryd.ntmps58
      go_wp2_with (go_at_call 57; refine hcH.out.mono ?_; rintro e w' ⟨rfl, hB⟩; unfold intRes)
      all_goals
        first
        | (exfalso; omega)
        | (go_ret3
           exact ⟨by rw [hS2.out, if_pos (by omega)]; rfl, hB⟩)
namespace RW
/-- the encoding of a string of at most 65536 bytes -/
def putS (l : List UInt8) : List UInt8 := putI l.length ++ l
theorem append_str (a : List UInt8) (s : ByteArray) : (⟨a.toArray⟩ : ByteArray) ++ s = ⟨(a ++ s.data.toList).toArray⟩ := by
  apply ByteArray.ext
  rw [ByteArray.data_append]
  apply Array.ext'
  simp
theorem putI_len (x : Int) : (putI x).length ≤ 10 := by rw [putI_grp, List.length_map]; exact grp_len _ _
theorem putS_eq (s : ByteArray) : putS s.data.toList = putI s.size ++ s.data.toList := by
  unfold putS; rw [Array.length_toList]; rfl
end RW
set_option maxRecDepth 10000 in
theorem putstr (s : ByteArray) (hs : s.size ≤ 65536) (w : World) :
    Calls Tryd.prog 43 #[.string s] w fun e w' => e = .returned (.tuple #[.string ⟨(RW.putS s.data.toList).toArray⟩, .int .i64 0]) ∧ Below w.heap.size w w' := by
  obtain ⟨S, hS⟩ : ∃ S : ByteArray, S = ⟨(RW.putI s.size).toArray⟩ := ⟨_, rfl⟩
  have hSl : S.size ≤ 10 := by rw [hS]; exact (show (RW.putI s.size).toArray.size ≤ 10 by simpa using RW.putI_len s.size)
  have hc := hide (putint s.size (by omega) (by omega) w)
  rw [← hS] at hc
  have hSH := hide hS
  clear hS
  go_enter Tryd.func43, Tryd.ntmps43
  go_wp2_with (go_at_call 42; refine hc.out.mono ?_; rintro e w' ⟨rfl, hB⟩)
  go_ret2
  refine ⟨?_, hB⟩
  rw [RW.putS_eq, ← RW.append_str, ← hSH.out]; rfl
set_option maxRecDepth 10000 in
theorem rputstr (s : ByteArray) (hs : s.size ≤ 65536) (w : World) :
    Calls Tryd.prog 46 #[.string s] w fun e w' => e = .returned (.tuple #[.string ⟨(RW.putS s.data.toList).toArray⟩, .int .i64 0]) ∧ Below w.heap.size w w' := by
  obtain ⟨S, hS⟩ : ∃ S : ByteArray, S = ⟨(RW.putI s.size).toArray⟩ := ⟨_, rfl⟩
  have hSl : S.size ≤ 10 := by rw [hS]; exact (show (RW.putI s.size).toArray.size ≤ 10 by simpa using RW.putI_len s.size)
  have hc := hide (rputint s.size (by omega) (by omega) w)
  rw [← hS] at hc
  have hSH := hide hS
  clear hS
  go_enter Tryd.func46, Tryd.ntmps46
  go_wp2_with (go_at_call 45; refine hc.out.mono ?_; rintro e w' ⟨rfl, hB⟩)
  go_ret2
  refine ⟨?_, hB⟩
  rw [RW.putS_eq, ← RW.append_str, ← hSH.out]; rfl
end Go.Proofs.YtcbckcojebanaaaDoor

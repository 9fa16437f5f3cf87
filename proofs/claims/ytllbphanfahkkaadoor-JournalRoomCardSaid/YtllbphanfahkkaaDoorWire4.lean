/-
  The walks of royaltyref01.String, PutString and of wire.PutString: what each returns; old memory as it was.
-/
import Derived.Test.YtllbphanfahkkaaDoorWire3
namespace Go.Proofs.YtllbphanfahkkaaDoor
open Go.RowKit Go.Shelf
namespace RW
/-- the encoding of a string of at most 65536 bytes -/
def putS (l : List UInt8) : List UInt8 := putI l.length ++ l
theorem append_str (a : List UInt8) (s : ByteArray) : (⟨a.toArray⟩ : ByteArray) ++ s = ⟨(a ++ s.data.toList).toArray⟩ := by
  apply ByteArray.ext
  rw [ByteArray.data_append]
  apply Array.ext'
  simp
theorem putI_len (x : Int) : (putI x).length ≤ 10 := by rw [putI_grp, List.length_map]; exact grp_len _ _
theorem putS_eq (s : ByteArray) : putS s.data.toList = putI s.size ++ s.data.toList := by
  unfold putS; rw [Array.length_toList]; rfl
end RW
set_option maxRecDepth 10000 in
theorem putstr (s : ByteArray) (hs : s.size ≤ 65536) (w : World) :
    Calls Tryd.prog 54 #[.string s] w fun e w' => e = .returned (.tuple #[.string ⟨(RW.putS s.data.toList).toArray⟩, .int .i64 0]) ∧ Below w.heap.size w w' := by
  obtain ⟨S, hS⟩ : ∃ S : ByteArray, S = ⟨(RW.putI s.size).toArray⟩ := ⟨_, rfl⟩
  have hSl : S.size ≤ 10 := by rw [hS]; exact (show (RW.putI s.size).toArray.size ≤ 10 by simpa using RW.putI_len s.size)
  have hc := hide (putint s.size (by omega) (by omega) w)
  rw [← hS] at hc
  have hSH := hide hS
  clear hS
  go_enter Tryd.func54, Tryd.ntmps54
  go_wp2_with (go_at_call 65; refine hc.out.mono ?_; rintro e w' ⟨rfl, hB⟩)
  go_ret2
  refine ⟨?_, hB⟩
  rw [RW.putS_eq, ← RW.append_str, ← hSH.out]; rfl
set_option maxRecDepth 10000 in
theorem rputstr (s : ByteArray) (hs : s.size ≤ 65536) (w : World) :
    Calls Tryd.prog 10 #[.string s] w fun e w' => e = .returned (.tuple #[.string ⟨(RW.putS s.data.toList).toArray⟩, .int .i64 0]) ∧ Below w.heap.size w w' := by
  obtain ⟨S, hS⟩ : ∃ S : ByteArray, S = ⟨(RW.putI s.size).toArray⟩ := ⟨_, rfl⟩
  have hSl : S.size ≤ 10 := by rw [hS]; exact (show (RW.putI s.size).toArray.size ≤ 10 by simpa using RW.putI_len s.size)
  have hc := hide (rputint s.size (by omega) (by omega) w)
  rw [← hS] at hc
  have hSH := hide hS
  clear hS
  go_enter Tryd.func10, Tryd.ntmps10
  go_wp2_with (go_at_call 27; refine hc.out.mono ?_; rintro e w' ⟨rfl, hB⟩)
  go_ret2
  refine ⟨?_, hB⟩
  rw [RW.putS_eq, ← RW.append_str, ← hSH.out]; rfl
end Go.Proofs.YtllbphanfahkkaaDoor

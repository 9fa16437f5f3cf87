/-
  Package ballot: Value, and the join of a list of strings: what they return; only new memory is written.
-/
import Derived.Test.YtcbckcojebanaaaDoorJoin
import Derived.Test.YtcbckcojebanaaaDoorMA
import Derived.Test.YtcbckcojebanaaaDoorMC
namespace Go.Proofs.YtcbckcojebanaaaDoor
open Go.RowKit
namespace RW
theorem join_flat : ∀ l : List (List UInt8), Lib.join l [] = l.flatten
  | [] => rfl
  | x :: r => by
    rw [Lib.join_cons, List.flatten_cons, Lib.joinTail]
    congr 1
    rw [show (fun y : List UInt8 => ([] : List UInt8) ++ y) = id from rfl, List.map_id]
theorem ascTo_len : ∀ (l : List (List UInt8)) (p : Option (List UInt8)), ascTo p l = true → ∀ s ∈ l, s.length = 32
  | [], _, _, s, hs => by simp at hs
  | x :: l, none, h, s, hs => by
    rw [ascTo, Bool.and_eq_true] at h
    rcases List.mem_cons.1 hs with rfl | hs
    · simpa using h.1
    · exact ascTo_len l _ h.2 s hs
  | x :: l, some p, h, s, hs => by
    rw [ascTo, Bool.and_eq_true, Bool.and_eq_true] at h
    rcases List.mem_cons.1 hs with rfl | hs
    · simpa using h.1.1
    · exact ascTo_len l _ h.2 s hs
theorem flat_len (k : Nat) : ∀ l : List (List UInt8), (∀ s ∈ l, s.length ≤ k) → l.flatten.length ≤ k * l.length
  | [], _ => by simp
  | x :: l, h => by
    have h1 := flat_len k l (fun s hs => h s (by simp [hs]))
    have h2 := h x (by simp)
    rw [List.flatten_cons, List.length_append, List.length_cons, Nat.mul_succ]
    omega
theorem asc_lims {l : List (List UInt8)} (h : asc l = true) : l.length ≤ 4000 ∧ l.flatten.length ≤ 128000 ∧ ∀ s ∈ l, s.length = 32 := by
  unfold asc at h
  rw [Bool.and_eq_true, decide_eq_true_eq] at h
  have h1 := ascTo_len l none h.1
  have h2 := flat_len 32 l (fun s hs => Nat.le_of_eq (h1 s hs))
  exact ⟨h.2, by omega, h1⟩
theorem bl_len (l : List ByteArray) : (bl l).length = l.length := List.length_map ..
end RW
theorem join_v {W : World} {v : Value} {l : List ByteArray} (h : StrsV W v l) (hl : l.length ≤ 140737488355328) (hf : (RW.bl l).flatten.length ≤ 140737488355328) :
    Calls Tryd.prog 59 #[v, .string ⟨#[]⟩] W fun e w' => e = .returned (.string ⟨(RW.bl l).flatten.toArray⟩) ∧ Below W.heap.size W w' := by
  obtain ⟨a, cap, rfl, hk, h | ⟨b, o, rfl, hb, hc⟩⟩ := h
  · subst h
    exact (SH.strings_Join_none a cap ⟨#[]⟩ W).mono (by rintro e w' ⟨rfl, rfl⟩; exact ⟨rfl, Below.refl _ _⟩)
  · have e : Lib.join (l.map (·.data.toList)) (⟨#[]⟩ : ByteArray).data.toList = (RW.bl l).flatten := RW.join_flat _
    refine (SH.strings_Join b o cap l ⟨#[]⟩ W (fun j x hx => ?_) hb hl hk (by rw [e]; exact hf)).mono ?_
    · have hj : j < l.length := (List.getElem?_eq_some_iff.1 hx).1
      rw [hc j hj, List.getD, hx]
      rfl
    · rw [e]
      rintro e w' h
      exact h
/-- what Value answers -/
def valRes (l : List ByteArray) : Value := if RW.asc (RW.bl l) then .tuple #[.string ⟨(RW.valL (RW.bl l)).toArray⟩, .int .i64 0] else .tuple #[.string ⟨#[]⟩, .int .i64 250]
theorem value_bad {v : Value} {l : List ByteArray} {w : World} (h : StrsV w v l) (hl : l.length ≤ 140737488355328) (ha : RW.asc (RW.bl l) = false) :
    Calls Tryd.prog 26 #[v] w fun e w' => e = .returned (.tuple #[.string ⟨#[]⟩, .int .i64 250]) ∧ Below w.heap.size w w' := by
  have hA := asc_v h hl
  rw [ha] at hA
  have hAH := hide hA
  have hB := hide (Below.refl w.heap.size w)
  clear hA ha h
  go_enter Tryd.func26, Tryd.ntmps26
  go_wp2_with (go_at_call 50; refine hAH.out.mono ?_; rintro e w' ⟨rfl, rfl⟩)
  go_ret2
  exact ⟨rfl, hB.out⟩
theorem value_good {v : Value} {l : List ByteArray} {w : World} (h : StrsV w v l) (hl : l.length ≤ 140737488355328) (ha : RW.asc (RW.bl l) = true) :
    Calls Tryd.prog 26 #[v] w fun e w' => e = .returned (.tuple #[.string ⟨(RW.valL (RW.bl l)).toArray⟩, .int .i64 0]) ∧ Below w.heap.size w w' := by
  obtain ⟨l1, l2, _⟩ := RW.asc_lims ha
  rw [RW.bl_len] at l1
  have hA := asc_v h hl
  rw [ha] at hA
  have hJ : ∀ W, Below w.heap.size w W → Calls Tryd.prog 59 #[v, .string ⟨#[]⟩] W fun e w' => e = .returned (.string ⟨(RW.bl l).flatten.toArray⟩) ∧ Below W.heap.size W w' := fun W hB => join_v (h.next hB) hl (by omega)
  have hP := fun W => putint l.length (by omega) (by omega) W
  have hr : RW.valL (RW.bl l) = RW.putI l.length ++ (RW.bl l).flatten := by unfold RW.valL; rw [RW.bl_len]
  obtain ⟨t, ht⟩ : ∃ t : ByteArray, t = ⟨(RW.bl l).flatten.toArray⟩ := ⟨_, rfl⟩
  obtain ⟨p, hp⟩ : ∃ t : ByteArray, t = ⟨(RW.putI l.length).toArray⟩ := ⟨_, rfl⟩
  have hps : p.size ≤ 10 := by rw [hp]; show (RW.putI l.length).toArray.size ≤ 10; rw [List.size_toArray]; exact RW.putI_len _
  have hts : t.size ≤ 128000 := by rw [ht]; show (RW.bl l).flatten.toArray.size ≤ _; rw [List.size_toArray]; exact l2
  have hsz : p.size + t.size ≤ 9223372036854775807 := by omega
  have hr2 : (⟨(RW.valL (RW.bl l)).toArray⟩ : ByteArray) = ⟨(p.data.toList ++ t.data.toList).toArray⟩ := by rw [hr, hp, ht]
  rw [hr2]
  rw [← ht] at hJ
  rw [← hp] at hP
  have hvl : ∃ a cap, v = .slice a l.length cap := by obtain ⟨a, cap, rfl, _⟩ := h; exact ⟨a, cap, rfl⟩
  obtain ⟨a, cap, rfl⟩ := hvl
  obtain ⟨n, hn⟩ : ∃ n, n = l.length := ⟨_, rfl⟩
  rw [← hn] at hA hJ hP ⊢
  have hAH := hide hA
  have hJH := hide hJ
  have hPH := hide hP
  have hB := hide (Below.refl w.heap.size w)
  clear hA ha h hJ hP hr hr2 ht hp hn hts hps l2
  go_enter Tryd.func26, Tryd.ntmps26
  go_wp2_with (first
    | (go_at_call 50; refine hAH.out.mono ?_; rintro e w' ⟨rfl, rfl⟩)
    | (go_at_call 42; refine (hPH.out _).mono ?_; rintro e w2 ⟨rfl, hB2⟩; have hJ2 := hide (hJH.out _ hB2); have hB2H := hide hB2; clear hB2)
    | (go_at_call 59; refine hJ2.out.mono ?_; rintro e w3 ⟨rfl, hB3⟩; have hB3H := hide hB3; clear hB3))
  go_ret2
  exact ⟨rfl, hB2H.out.trans (hB3H.out.mono hB2H.out.size)⟩
theorem value_any {v : Value} {l : List ByteArray} {w : World} (h : StrsV w v l) (hl : l.length ≤ 140737488355328) :
    Calls Tryd.prog 26 #[v] w fun e w' => e = .returned (valRes l) ∧ Below w.heap.size w w' := by
  unfold valRes
  cases ha : RW.asc (RW.bl l)
  · exact value_bad h hl ha
  · exact value_good h hl ha
end Go.Proofs.YtcbckcojebanaaaDoor

/-
  Package ballot: Faults, Quorum, isSite, isVote, and their like in the reference: what each returns; no condition.
-/
import Derived.WalkKit
import Derived.WalkLawsBesides
import Derived.Test.YtcbckcojebanaaaDoorMZ0
import Derived.Deep.QuietTactic
import Derived.BigQuiet
import Derived.Deep.DeepCutAuto
namespace Go.Proofs.YtcbckcojebanaaaDoor
open Go.RowKit
namespace RW
def faults (n : Int) : Int := if 1 ≤ n ∧ n ≤ 7 then (n - 1) / 3 else 0
def quorum (n : Int) : Int := if 1 ≤ n ∧ n ≤ 7 then n - (n - 1) / 3 else 0
end RW
set_option maxHeartbeats 1000000 in
theorem faults_any (n : Int) (w : World) : Calls Tryd.prog 18 #[.int .i64 n] w fun e w' => e = .returned (.int .i64 (RW.faults n)) ∧ w = w' := by
  obtain ⟨r, hr⟩ : ∃ r, r = RW.faults n := ⟨_, rfl⟩
  rw [← hr]
  have hrH := hide hr
  clear hr
  by_cases h1 : n < 1
  · go_enter Tryd.func18, Tryd.ntmps18
    go_wp2
    go_ret
    exact ⟨by rw [hrH.out, RW.faults, if_neg (by omega)] <;> rfl, rfl⟩
  · by_cases h2 : 7 < n
    · go_enter Tryd.func18, Tryd.ntmps18
      go_wp2
      go_ret
      exact ⟨by rw [hrH.out, RW.faults, if_neg (by omega)] <;> rfl, rfl⟩
    · have h3 : 1 ≤ n := by omega
      have h4 : n ≤ 7 := by omega
      have h5 : 0 ≤ n - 1 := by omega
      go_enter Tryd.func18, Tryd.ntmps18
      go_wp2
      go_ret
      exact ⟨by rw [hrH.out, RW.faults, if_pos ⟨h3, h4⟩] <;> rfl, rfl⟩
set_option maxHeartbeats 1000000 in
theorem rfaults_any (n : Int) (w : World) : Calls Tryd.prog 19 #[.int .i64 n] w fun e w' => e = .returned (.int .i64 (RW.faults n)) ∧ w = w' := by
  obtain ⟨r, hr⟩ : ∃ r, r = RW.faults n := ⟨_, rfl⟩
  rw [← hr]
  have hrH := hide hr
  clear hr
  by_cases h1 : n < 1
  · go_enter Tryd.func19, Tryd.ntmps19
    go_wp2
    go_ret
    exact ⟨by rw [hrH.out, RW.faults, if_neg (by omega)] <;> rfl, rfl⟩
  · by_cases h2 : 7 < n
    · go_enter Tryd.func19, Tryd.ntmps19
      go_wp2
      go_ret
      exact ⟨by rw [hrH.out, RW.faults, if_neg (by omega)] <;> rfl, rfl⟩
    · have h3 : 1 ≤ n := by omega
      have h4 : n ≤ 7 := by omega
      have h5 : 0 ≤ n - 1 := by omega
      go_enter Tryd.func19, Tryd.ntmps19
      go_wp2
      go_ret
      exact ⟨by rw [hrH.out, RW.faults, if_pos ⟨h3, h4⟩] <;> rfl, rfl⟩
set_option maxHeartbeats 1000000 in
theorem quorum_any (n : Int) (w : World) : Calls Tryd.prog 20 #[.int .i64 n] w fun e w' => e = .returned (.int .i64 (RW.quorum n)) ∧ w = w' := by
  obtain ⟨r, hr⟩ : ∃ r, r = RW.quorum n := ⟨_, rfl⟩
  rw [← hr]
  have hrH := hide hr
  clear hr
  by_cases h1 : n < 1
  · go_enter Tryd.func20, Tryd.ntmps20
    go_wp2
    go_ret
    exact ⟨by rw [hrH.out, RW.quorum, if_neg (by omega)] <;> rfl, rfl⟩
  · by_cases h2 : 7 < n
    · go_enter Tryd.func20, Tryd.ntmps20
      go_wp2
      go_ret
      exact ⟨by rw [hrH.out, RW.quorum, if_neg (by omega)] <;> rfl, rfl⟩
    · have h3 : 1 ≤ n := by omega
      have h4 : n ≤ 7 := by omega
      obtain ⟨q, hq⟩ : ∃ q, q = RW.faults n := ⟨_, rfl⟩
      have hq2 : q = (n - 1) / 3 := by rw [hq, RW.faults, if_pos ⟨h3, h4⟩]
      have hF : ∀ W, Calls Tryd.prog 18 #[.int .i64 n] W fun e w' => e = .returned (.int .i64 q) ∧ W = w' := fun W => by rw [hq]; exact faults_any n W
      have hFH := hide hF
      have hq2H := hide hq2
      have hb1 : 0 ≤ n - q := by omega
      have hb2 : n - q ≤ 7 := by omega
      clear hF hq hq2
      go_enter Tryd.func20, Tryd.ntmps20
      go_wp2_with (go_at_call 18; refine (hFH.out _).mono ?_; rintro e w' ⟨rfl, rfl⟩)
      go_ret
      exact ⟨by rw [hrH.out, RW.quorum, if_pos ⟨h3, h4⟩, hq2H.out] <;> rfl, rfl⟩
set_option maxHeartbeats 1000000 in
theorem rquorum_any (n : Int) (w : World) : Calls Tryd.prog 21 #[.int .i64 n] w fun e w' => e = .returned (.int .i64 (RW.quorum n)) ∧ w = w' := by
  obtain ⟨r, hr⟩ : ∃ r, r = RW.quorum n := ⟨_, rfl⟩
  rw [← hr]
  have hrH := hide hr
  clear hr
  by_cases h1 : n < 1
  · go_enter Tryd.func21, Tryd.ntmps21
    go_wp2
    go_ret
    exact ⟨by rw [hrH.out, RW.quorum, if_neg (by omega)] <;> rfl, rfl⟩
  · by_cases h2 : 7 < n
    · go_enter Tryd.func21, Tryd.ntmps21
      go_wp2
      go_ret
      exact ⟨by rw [hrH.out, RW.quorum, if_neg (by omega)] <;> rfl, rfl⟩
    · have h3 : 1 ≤ n := by omega
      have h4 : n ≤ 7 := by omega
      obtain ⟨q, hq⟩ : ∃ q, q = RW.faults n := ⟨_, rfl⟩
      have hq2 : q = (n - 1) / 3 := by rw [hq, RW.faults, if_pos ⟨h3, h4⟩]
      have hF : ∀ W, Calls Tryd.prog 19 #[.int .i64 n] W fun e w' => e = .returned (.int .i64 q) ∧ W = w' := fun W => by rw [hq]; exact rfaults_any n W
      have hFH := hide hF
      have hq2H := hide hq2
      have hb1 : 0 ≤ n - q := by omega
      have hb2 : n - q ≤ 7 := by omega
      clear hF hq hq2
      go_enter Tryd.func21, Tryd.ntmps21
      go_wp2_with (go_at_call 19; refine (hFH.out _).mono ?_; rintro e w' ⟨rfl, rfl⟩)
      go_ret
      exact ⟨by rw [hrH.out, RW.quorum, if_pos ⟨h3, h4⟩, hq2H.out] <;> rfl, rfl⟩
set_option maxHeartbeats 1000000 in
theorem site_any (n : Int) (w : World) : Calls Tryd.prog 47 #[.int .i64 n] w fun e w' => e = .returned (.bool (RW.site n)) ∧ w = w' := by
  obtain ⟨r, hr⟩ : ∃ r, r = RW.site n := ⟨_, rfl⟩
  rw [← hr]
  have hrH := hide hr
  clear hr
  by_cases h1 : 0 ≤ n
  · by_cases h2 : n < 7
    · go_enter Tryd.func47, Tryd.ntmps47
      go_wp2
      go_ret
      exact ⟨by rw [hrH.out]; simp [RW.site, h1, h2] <;> rfl, rfl⟩
    · go_enter Tryd.func47, Tryd.ntmps47
      go_wp2
      go_ret
      exact ⟨by rw [hrH.out]; simp [RW.site, h2] <;> rfl, rfl⟩
  · go_enter Tryd.func47, Tryd.ntmps47
    go_wp2
    go_ret
    exact ⟨by rw [hrH.out]; simp [RW.site]; omega, rfl⟩
set_option maxHeartbeats 1000000 in
theorem vote_any (n : Int) (w : World) : Calls Tryd.prog 51 #[.int .i64 n] w fun e w' => e = .returned (.bool (RW.voteK n)) ∧ w = w' := by
  obtain ⟨r, hr⟩ : ∃ r, r = RW.voteK n := ⟨_, rfl⟩
  rw [← hr]
  have hrH := hide hr
  clear hr
  have h : n = 4 ∨ n = 5 ∨ n = 6 ∨ (n < 4 ∨ 6 < n) := by omega
  rcases h with rfl | rfl | rfl | h
  · go_enter Tryd.func51, Tryd.ntmps51
    go_wp2
    go_ret
    exact ⟨by rw [hrH.out] <;> rfl, rfl⟩
  · go_enter Tryd.func51, Tryd.ntmps51
    go_wp2
    go_ret
    exact ⟨by rw [hrH.out] <;> rfl, rfl⟩
  · go_enter Tryd.func51, Tryd.ntmps51
    go_wp2
    go_ret
    exact ⟨by rw [hrH.out] <;> rfl, rfl⟩
  · have e4 : (n == 4) = false := by simp; omega
    have e5 : (n == 5) = false := by simp; omega
    have e6 : (n == 6) = false := by simp; omega
    have hv : RW.voteK n = false := by simp [RW.voteK]; omega
    have hvH := hide hv
    clear hv h
    go_enter Tryd.func51, Tryd.ntmps51
    go_wp2
    go_ret
    exact ⟨by rw [hrH.out, hvH.out] <;> rfl, rfl⟩
end Go.Proofs.YtcbckcojebanaaaDoor

/-
  Package ballot: ascending (and the reference's IDs): lists of strings in memory; the world as it was.
-/
namespace Go.Proofs.YtcbckcojebanaaaDoor
open Go.RowKit
namespace RW
def bl (l : List ByteArray) : List (List UInt8) := l.map fun s => s.data.toList
/-- an ID's condition in its place -/
def condK (l : List ByteArray) (k : Nat) : Bool :=
  ((l.getD k ⟨#[]⟩).size == 32) && (k == 0 || !(Op.bytesLess (l.getD k ⟨#[]⟩).toList (l.getD (k - 1) ⟨#[]⟩).toList || (l.getD k ⟨#[]⟩).toList == (l.getD (k - 1) ⟨#[]⟩).toList))
def okS (p : Option (List UInt8)) (s : List UInt8) : Bool := (s.length == 32) && (match p with | none => true | some q => !(Op.bytesLess s q || s == q))
theorem ascTo_cons (p : Option (List UInt8)) (s : List UInt8) (l : List (List UInt8)) : ascTo p (s :: l) = (okS p s && ascTo (some s) l) := by
  cases p <;> simp [ascTo, okS]
def lastP : Option (List UInt8) → List (List UInt8) → Option (List UInt8)
  | p, [] => p
  | _, s :: l => lastP (some s) l
theorem ascTo_snoc : ∀ (p : Option (List UInt8)) (l : List (List UInt8)) (s : List UInt8), ascTo p (l ++ [s]) = (ascTo p l && okS (lastP p l) s)
  | p, [], s => by simp [ascTo_cons, ascTo, lastP]
  | p, t :: l, s => by rw [List.cons_append, ascTo_cons, ascTo_cons, ascTo_snoc (some t) l s, lastP, Bool.and_assoc]
theorem lastP_take : ∀ (p : Option (List UInt8)) (l : List (List UInt8)) (k : Nat), 0 < k → k ≤ l.length → lastP p (l.take k) = some (l.getD (k - 1) [])
  | p, [], k, h, h2 => by simp at h2; omega
  | p, t :: l, 1, _, _ => by simp [lastP]
  | p, t :: l, k + 2, _, h2 => by
    rw [List.take_succ_cons, lastP, lastP_take (some t) l (k + 1) (by omega) (by simp at h2; omega)]
    simp
theorem bl_get (l : List ByteArray) (k : Nat) (h : k < l.length) : (bl l).getD k [] = (l.getD k ⟨#[]⟩).data.toList := by
  simp [bl, List.getD, List.getElem?_eq_getElem h]
theorem asc_step (l : List ByteArray) (k : Nat) (h : k < l.length) : ascTo none ((bl l).take (k + 1)) = (ascTo none ((bl l).take k) && condK l k) := by
  have hl : k < (bl l).length := by simp [bl]; exact h
  rw [List.take_succ_eq_append_getElem hl, ascTo_snoc]
  congr 1
  have e : (bl l)[k] = (l.getD k ⟨#[]⟩).data.toList := by rw [← bl_get l k h, List.getD, List.getElem?_eq_getElem hl]; rfl
  rw [e]
  unfold okS condK
  have hsz : ((l.getD k ⟨#[]⟩).data.toList.length == 32) = ((l.getD k ⟨#[]⟩).size == 32) := by rw [Array.length_toList]; rfl
  rw [hsz]
  congr 1
  rcases Nat.eq_zero_or_pos k with rfl | hk
  · rfl
  · rw [lastP_take none _ k hk (by omega), bl_get l (k - 1) (by omega)]
    simp only [ByteArray.toList_eq]
    have : (k == 0) = false := by simp; omega
    rw [this, Bool.false_or]
theorem asc_prefix : ∀ (p : Option (List UInt8)) (l m : List (List UInt8)), ascTo p (l ++ m) = true → ascTo p l = true
  | _, [], _, _ => by simp [ascTo]
  | p, s :: l, m, h => by
    rw [List.cons_append, ascTo_cons, Bool.and_eq_true] at h
    rw [ascTo_cons, Bool.and_eq_true]
    exact ⟨h.1, asc_prefix _ _ _ h.2⟩
theorem asc_no (l : List ByteArray) (k : Nat) (h : k < l.length) (hc : condK l k = false) : asc (bl l) = false := by
  cases ha : asc (bl l) with
  | false => rfl
  | true =>
    unfold asc at ha
    rw [Bool.and_eq_true] at ha
    have h1 := asc_prefix none ((bl l).take (k + 1)) ((bl l).drop (k + 1)) (by rw [List.take_append_drop]; exact ha.1)
    rw [asc_step l k h, hc, Bool.and_false] at h1
    cases h1
end RW
set_option maxRecDepth 10000 in
set_option maxHeartbeats 4000000 in
theorem asc_any (b o cap : Nat) (l : List ByteArray) (hl : l.length ≤ 140737488355328) (w : World) (hc : ∀ i, i < l.length → w.cell? ⟨b, o + i, none⟩ = some (.string (l.getD i ⟨#[]⟩))) :
    Calls Tryd.prog 50 #[.slice (some ⟨b, o, none⟩) l.length cap] w fun e w' => e = .returned (.bool (RW.asc (RW.bl l))) ∧ w = w' := by
  have hcH := hide hc
  clear hc
  obtain ⟨n, hn⟩ : ∃ n, n = l.length := ⟨_, rfl⟩
  rw [← hn] at hl ⊢
  have hnH := hide hn
  clear hn
  go_enter Tryd.func50, Tryd.ntmps50
  go_wp2
  go_loop [7] (fun i => ∃ k : Nat, k ≤ n ∧ i = .int .i64 k ∧ Hid (RW.ascTo none ((RW.bl l).take k) = true)) (fun i => n - (intOf i).toNat)
  case atStart => exact ⟨0, Nat.zero_le _, rfl, rfl⟩
  case round =>
    obtain ⟨k, hk, rfl, ha⟩ := hrel
    by_cases hlt : k < n
    · have hkl : k < l.length := by rw [← hnH.out]; exact hlt
      have ck := hcH.out k hkl
      have hs := RW.asc_step l k hkl
      rw [ha.out, Bool.true_and] at hs
      have hno := RW.asc_no l k hkl
      have hsH := hide hs
      have hnoH := hide hno
      clear hs hno
      obtain ⟨s, hsd⟩ : ∃ s, s = l.getD k ⟨#[]⟩ := ⟨_, rfl⟩
      rw [← hsd] at ck
      have hsdH := hide hsd
      clear hsd
      by_cases h32 : s.size = 32
      · have e32 : ((s.size : Int) != 32) = false := by rw [h32]; rfl
        rcases Nat.eq_zero_or_pos k with hk0 | hkp
        · subst hk0
          rw [Nat.add_zero] at ck
          have hcond : RW.condK l 0 = true := by unfold RW.condK; rw [← hsdH.out]; simp [h32]
          rw [hcond] at hsH
          have h32H := hide h32
          clear h32
          go_wp2
          go_round
          case rel => exact ⟨1, by omega, by go_num, hsH.out⟩
          case measure => simp [intOf]; omega
        · have hp1 : (0 : Int) < (k : Int) := by omega
          have cp := hcH.out (k - 1) (by omega)
          obtain ⟨t, htd⟩ : ∃ t, t = l.getD (k - 1) ⟨#[]⟩ := ⟨_, rfl⟩
          rw [← htd] at cp
          have hcond : RW.condK l k = !(Op.bytesLess s.toList t.toList || s.toList == t.toList) := by
            unfold RW.condK
            rw [← hsdH.out, ← htd]
            have : (k == 0) = false := by simp; omega
            rw [this]
            simp [h32]
          have hcondH := hide hcond
          have htdH := hide htd
          have h32H := hide h32
          clear hcond htd h32
          obtain ⟨j, hj⟩ : ∃ j, k = j + 1 := ⟨k - 1, by omega⟩
          subst hj
          simp only [Nat.add_sub_cancel] at cp
          cases hb1 : Op.bytesLess s.toList t.toList
          · cases hb2 : (s.toList == t.toList)
            · have hc1 := hide (hcondH.out.trans (by rw [hb1, hb2]; rfl) : RW.condK l (j + 1) = true)
              go_wp2
              go_round
              case rel => exact ⟨j + 1 + 1, by omega, by go_num, hsH.out.trans hc1.out⟩
              case measure => simp [intOf]; omega
            · have hc1 := hide (hnoH.out (hcondH.out.trans (by rw [hb1, hb2]; rfl)))
              go_wp2
              go_ret
              exact ⟨by rw [hc1.out] <;> rfl, rfl⟩
          · have hc1 := hide (hnoH.out (hcondH.out.trans (by rw [hb1]; rfl)))
            go_wp2
            go_ret
            exact ⟨by rw [hc1.out] <;> rfl, rfl⟩
      · have e32 : ((s.size : Int) != 32) = true := by simp; omega
        have hcond : RW.condK l k = false := by unfold RW.condK; rw [← hsdH.out]; simp [h32]
        have hf := hide (hnoH.out hcond)
        clear hcond h32
        go_wp2
        go_ret
        exact ⟨by rw [hf.out] <;> rfl, rfl⟩
    · obtain rfl : k = n := by omega
      have hfull : RW.asc (RW.bl l) = decide (k ≤ 4000) := by
        unfold RW.asc
        have h1 := ha.out
        rw [List.take_of_length_le (by simp [RW.bl, hnH.out])] at h1
        rw [h1, Bool.true_and]
        simp [RW.bl, hnH.out]
      have hfH := hide hfull
      clear hfull
      go_wp2
      go_ret
      exact ⟨by rw [hfH.out]; simp; omega, rfl⟩
end Go.Proofs.YtcbckcojebanaaaDoor

/-
  Package ballot: ascending of nothing; slices.ContainsFunc with Valid's closure; slices.Equal at strings: what they return; no memory that was there is written.
-/
namespace Go.Proofs.YtcbckcojebanaaaDoor
open Go.RowKit
namespace RW
def longB (s : ByteArray) : Bool := decide (s.size < 1 ∨ 4000 < s.size)
theorem any_take (l : List ByteArray) (f : ByteArray → Bool) (k : Nat) (h : k < l.length) : (l.take (k + 1)).any f = ((l.take k).any f || f (l.getD k ⟨#[]⟩)) := by
  rw [List.take_succ_eq_append_getElem h, List.any_append]
  simp [List.getD, List.getElem?_eq_getElem h]
theorem any_yes (l : List ByteArray) (f : ByteArray → Bool) (k : Nat) (h : k < l.length) (hf : f (l.getD k ⟨#[]⟩) = true) : l.any f = true := by
  rw [List.any_eq_true]
  exact ⟨l[k], List.getElem_mem h, by simpa [List.getD, List.getElem?_eq_getElem h] using hf⟩
end RW
set_option maxHeartbeats 1000000 in
theorem asc_none (a : Option Addr) (cap : Nat) (w : World) : Calls Tryd.prog 50 #[.slice a 0 cap] w fun e w' => e = .returned (.bool (RW.asc (RW.bl []))) ∧ w = w' := by
  go_enter Tryd.func50, Tryd.ntmps50
  go_wp2
  refine wp_loop_rounds 1 ?_
  rw [rounds_succ]
  go_wp2
  go_ret
  exact ⟨rfl, rfl⟩
set_option maxHeartbeats 1000000 in
theorem long_any (s : ByteArray) (hs : s.size ≤ 9223372036854775807) (w : World) : Calls Tryd.prog 49 #[.string s] w fun e w' => e = .returned (.bool (RW.longB s)) ∧ w = w' := by
  obtain ⟨r, hr⟩ : ∃ r, r = RW.longB s := ⟨_, rfl⟩
  rw [← hr]
  have hrH := hide hr
  clear hr
  by_cases h1 : s.size < 1
  · have h1' : (s.size : Int) < 1 := by omega
    have e := hide (show RW.longB s = true from decide_eq_true (by omega))
    go_enter Tryd.func49, Tryd.ntmps49
    go_wp2
    go_ret
    exact ⟨by rw [hrH.out, e.out] <;> rfl, rfl⟩
  · have h1' : ¬ (s.size : Int) < 1 := by omega
    by_cases h2 : 4000 < s.size
    · have h2' : (4000 : Int) < (s.size : Int) := by omega
      have e := hide (show RW.longB s = true from decide_eq_true (by omega))
      go_enter Tryd.func49, Tryd.ntmps49
      go_wp2
      go_ret
      exact ⟨by rw [hrH.out, e.out] <;> rfl, rfl⟩
    · have h2' : ¬ (4000 : Int) < (s.size : Int) := by omega
      have e := hide (show RW.longB s = false from decide_eq_false (by omega))
      go_enter Tryd.func49, Tryd.ntmps49
      go_wp2
      go_ret
      exact ⟨by rw [hrH.out, e.out] <;> rfl, rfl⟩
def IdxPost (l : List ByteArray) (w : World) (e : Ending) (w' : World) : Prop := ∃ n : Int, e = .returned (.int .i64 n) ∧ decide (0 ≤ n) = l.any RW.longB ∧ w = w'
set_option maxRecDepth 10000 in
set_option maxHeartbeats 2000000 in
theorem index_any (b o cap : Nat) (l : List ByteArray) (hl : l.length ≤ 140737488355328) (hs : ∀ s ∈ l, s.size ≤ 9223372036854775807) (w : World) (hc : ∀ i, i < l.length → w.cell? ⟨b, o + i, none⟩ = some (.string (l.getD i ⟨#[]⟩))) :
    Calls Tryd.prog 67 #[.slice (some ⟨b, o, none⟩) l.length cap, .func (.func 49) #[] #[]] w (IdxPost l w) := by
  have hcH := hide hc
  have hsH := hide hs
  clear hc hs
  obtain ⟨n, hn⟩ : ∃ n, n = l.length := ⟨_, rfl⟩
  rw [← hn] at hl ⊢
  have hnH := hide hn
  clear hn
  go_enter Tryd.func67, Tryd.ntmps67
  go_wp2
  go_loop [8] (fun i => ∃ k : Nat, k ≤ n ∧ i = .int .i64 k ∧ Hid ((l.take k).any RW.longB = false)) (fun i => n - (intOf i).toNat)
  case atStart => exact ⟨0, Nat.zero_le _, rfl, rfl⟩
  case round =>
    obtain ⟨k, hk, rfl, ha⟩ := hrel
    by_cases hlt : k < n
    · have hkl : k < l.length := by rw [← hnH.out]; exact hlt
      have ck := hcH.out k hkl
      have hst := RW.any_take l RW.longB k hkl
      rw [ha.out, Bool.false_or] at hst
      have hy := RW.any_yes l RW.longB k hkl
      have hsz := hsH.out (l.getD k ⟨#[]⟩) (by rw [List.getD, List.getElem?_eq_getElem hkl]; exact List.getElem_mem hkl)
      obtain ⟨s, hsd⟩ : ∃ s, s = l.getD k ⟨#[]⟩ := ⟨_, rfl⟩
      rw [← hsd] at ck hst hy hsz
      have hL := fun W => long_any s hsz W
      obtain ⟨q, hq⟩ : ∃ q, q = RW.longB s := ⟨_, rfl⟩
      rw [← hq] at hst hy hL
      have hLH := hide hL
      have hstH := hide hst
      have hyH := hide hy
      clear hsd hq hL hst hy hsz
      cases q
      · go_wp2_with (go_at_call 49; refine (hLH.out _).mono ?_; rintro e w' ⟨rfl, rfl⟩)
        go_round
        case rel => exact ⟨k + 1, by omega, by go_num, hstH.out⟩
        case measure => simp [intOf]; omega
      · have hA := hide (hyH.out rfl)
        go_wp2_with (go_at_call 49; refine (hLH.out _).mono ?_; rintro e w' ⟨rfl, rfl⟩)
        go_ret
        exact ⟨k, rfl, by rw [hA.out]; simp, rfl⟩
    · obtain rfl : k = n := by omega
      have hA : l.any RW.longB = false := by
        have h1 := ha.out
        rwa [List.take_of_length_le (by rw [hnH.out]; exact Nat.le_refl _)] at h1
      have hAH := hide hA
      clear hA
      go_wp2
      go_ret
      exact ⟨-1, rfl, by rw [hAH.out]; rfl, rfl⟩
set_option maxHeartbeats 1000000 in
theorem contains_any (b o cap : Nat) (l : List ByteArray) (hl : l.length ≤ 140737488355328) (hs : ∀ s ∈ l, s.size ≤ 9223372036854775807) (w : World) (hc : ∀ i, i < l.length → w.cell? ⟨b, o + i, none⟩ = some (.string (l.getD i ⟨#[]⟩))) :
    Calls Tryd.prog 48 #[.slice (some ⟨b, o, none⟩) l.length cap, .func (.func 49) #[] #[]] w fun e w' => e = .returned (.bool (l.any RW.longB)) ∧ w = w' := by
  have hI := hide (index_any b o cap l hl hs w hc)
  obtain ⟨q, hq⟩ : ∃ q, q = l.any RW.longB := ⟨_, rfl⟩
  rw [← hq]
  have hqH := hide hq
  clear hq hc hs
  go_enter Tryd.func48, Tryd.ntmps48
  go_wp2_with (go_at_call 67; refine hI.out.mono ?_; rintro e w' ⟨n, rfl, hn, rfl⟩; rw [← hqH.out] at hn)
  go_ret
  exact ⟨by first | rfl | (rw [hn] <;> rfl), rfl⟩
end Go.Proofs.YtcbckcojebanaaaDoor

/-
  slices.Equal at strings: what it returns; the world as it was, some draws on.
-/
namespace Go.Proofs.YtcbckcojebanaaaDoor
open Go.RowKit
namespace RW
theorem bytes_ne {s t : ByteArray} (h : s ≠ t) : (s.toList == t.toList) = false := by
  cases e : (s.toList == t.toList)
  · rfl
  · rw [beq_iff_eq, ByteArray.toList_eq, ByteArray.toList_eq] at e
    exact absurd (ByteArray.ext (Array.ext' e)) h
theorem take_eq (l m : List ByteArray) (k : Nat) (h1 : k < l.length) (h2 : k < m.length) (he : l.take k = m.take k) (hx : l.getD k ⟨#[]⟩ = m.getD k ⟨#[]⟩) : l.take (k + 1) = m.take (k + 1) := by
  rw [List.take_succ_eq_append_getElem h1, List.take_succ_eq_append_getElem h2, he]
  simp only [List.getD, List.getElem?_eq_getElem h1, List.getElem?_eq_getElem h2, Option.getD_some] at hx
  rw [hx]
theorem getD_ne (l m : List ByteArray) (k : Nat) (hx : l.getD k ⟨#[]⟩ ≠ m.getD k ⟨#[]⟩) : decide (l = m) = false := decide_eq_false (fun h => hx (by rw [h]))
end RW
def EqlPost (q : Bool) (w : World) (e : Ending) (w' : World) : Prop := e = .returned (.bool q) ∧ ∃ n, w' = w.drewN n
set_option maxRecDepth 10000 in
set_option maxHeartbeats 2000000 in
theorem equal_len (a1 a2 : Option Addr) (n1 n2 c1 c2 : Nat) (_ : n1 ≤ 140737488355328) (_ : n2 ≤ 140737488355328) (hne : n1 ≠ n2) (w : World) :
    Calls Tryd.prog 54 #[.slice a1 n1 c1, .slice a2 n2 c2] w (EqlPost false w) := by
  have e1 : ((n1 : Int) != (n2 : Int)) = true := by simp; omega
  have e2 : (n1 != n2) = true := by simp; omega
  have hneH := hide hne
  clear hne
  go_enter Tryd.func54, Tryd.ntmps54
  go_wp2
  go_ret
  exact ⟨rfl, 0, rfl⟩
set_option maxRecDepth 10000 in
set_option maxHeartbeats 1000000 in
theorem equal_none (a1 a2 : Option Addr) (c1 c2 : Nat) (w : World) : Calls Tryd.prog 54 #[.slice a1 0 c1, .slice a2 0 c2] w (EqlPost true w) := by
  go_enter Tryd.func54, Tryd.ntmps54
  go_wp2
  refine wp_loop_rounds 1 ?_
  rw [rounds_succ]
  go_wp2
  go_ret
  exact ⟨rfl, 0, rfl⟩
set_option maxRecDepth 10000 in
set_option maxHeartbeats 2000000 in
theorem equal_any (b1 o1 c1 b2 o2 c2 : Nat) (l m : List ByteArray) (hl : l.length ≤ 140737488355328) (hm : m.length = l.length) (w : World)
    (hc1 : ∀ i, i < l.length → w.cell? ⟨b1, o1 + i, none⟩ = some (.string (l.getD i ⟨#[]⟩))) (hc2 : ∀ i, i < l.length → w.cell? ⟨b2, o2 + i, none⟩ = some (.string (m.getD i ⟨#[]⟩))) :
    Calls Tryd.prog 54 #[.slice (some ⟨b1, o1, none⟩) l.length c1, .slice (some ⟨b2, o2, none⟩) l.length c2] w (EqlPost (decide (l = m)) w) := by
  have h1H := hide hc1
  have h2H := hide hc2
  have hmH := hide hm
  obtain ⟨q, hq⟩ : ∃ q, q = decide (l = m) := ⟨_, rfl⟩
  rw [← hq]
  have hqH := hide hq
  obtain ⟨n, hn⟩ : ∃ n, n = l.length := ⟨_, rfl⟩
  rw [← hn] at hl ⊢
  have hnH := hide hn
  clear hc1 hc2 hq hn hm
  go_enter Tryd.func54, Tryd.ntmps54
  go_wp2
  go_loopw [13] (fun i wr => ∃ k : Nat, k ≤ n ∧ i = .int .i64 k ∧ Hid (l.take k = m.take k) ∧ ∃ q, wr = w.drewN q) (fun i _ => n - (intOf i).toNat)
  case atStart => exact ⟨0, Nat.zero_le _, rfl, rfl, 0, rfl⟩
  case round =>
    obtain ⟨k, hk, rfl, ha, d, hd⟩ := hrel
    have hdH := hide hd
    clear hd
    by_cases hlt : k < n
    · have hkl : k < l.length := by rw [← hnH.out]; exact hlt
      have x1 : wr.cell? ⟨b1, o1 + k, none⟩ = some (.string (l.getD k ⟨#[]⟩)) := by rw [hdH.out]; exact h1H.out k hkl
      have x2 : wr.cell? ⟨b2, o2 + k, none⟩ = some (.string (m.getD k ⟨#[]⟩)) := by rw [hdH.out]; exact h2H.out k hkl
      have hst := hide (RW.take_eq l m k hkl (by rw [hmH.out]; exact hkl) ha.out)
      have hno := hide (RW.getD_ne l m k)
      obtain ⟨s, hs⟩ : ∃ s, s = l.getD k ⟨#[]⟩ := ⟨_, rfl⟩
      obtain ⟨t, ht⟩ : ∃ t, t = m.getD k ⟨#[]⟩ := ⟨_, rfl⟩
      rw [← hs] at x1
      rw [← ht] at x2
      have hsH := hide hs
      have htH := hide ht
      clear hs ht
      by_cases he : s = t
      · have hst2 := hide (hst.out (by rw [← hsH.out, ← htH.out, he]))
        subst he
        go_wp2
        go_quiet (fail)
        go_wp2
        go_roundw
        case rel => exact ⟨k + 1, by omega, by go_num, hst2.out, _, by rw [hdH.out]; exact World.drewN_drewN _ _ _⟩
        case measure => simp [intOf]; omega
      · have hno2 := hide (hno.out (by rw [← hsH.out, ← htH.out]; exact he))
        have e1 := RW.bytes_ne he
        have e2 : (s.toList != t.toList) = true := by simp only [bne, e1]; rfl
        have heH := hide he
        clear he
        go_wp2
        go_quiet (fail)
        go_wp2
        go_ret
        exact ⟨by rw [hqH.out, hno2.out] <;> rfl, _, by rw [hdH.out]; exact World.drewN_drewN _ _ _⟩
    · obtain rfl : k = n := by omega
      have hA : l = m := by
        have h1 := ha.out
        rwa [List.take_of_length_le (by rw [hnH.out]; exact Nat.le_refl _), List.take_of_length_le (by rw [hmH.out, hnH.out]; exact Nat.le_refl _)] at h1
      have hAH := hide (show q = true by rw [hqH.out]; exact decide_eq_true hA)
      clear hA
      go_wp2
      go_ret
      exact ⟨by rw [hAH.out] <;> rfl, d, hdH.out⟩
end Go.Proofs.YtcbckcojebanaaaDoor

/-
  Package ballot: lists of strings as values; messages as structs; Same, and the comparison of six numbers: what they return; only new memory is written.
-/
namespace Go.Proofs.YtcbckcojebanaaaDoor
open Go.RowKit
namespace RW
noncomputable def dec (p : Prop) : Bool := @decide p (Classical.propDecidable p)
theorem dec_iff (p : Prop) : dec p = true ↔ p := by unfold dec; exact @decide_eq_true_iff p (Classical.propDecidable p)
theorem dec_true {p : Prop} (h : p) : dec p = true := (dec_iff p).2 h
theorem dec_false {p : Prop} (h : ¬ p) : dec p = false := by
  cases e : dec p
  · rfl
  · exact absurd ((dec_iff p).1 e) h
def six6 (a : Nat → Int) : Array Value := #[.int .i64 (a 0), .int .i64 (a 1), .int .i64 (a 2), .int .i64 (a 3), .int .i64 (a 4), .int .i64 (a 5)]
theorem all6 {a b : Nat → Int} (g0 : a 0 = b 0) (g1 : a 1 = b 1) (g2 : a 2 = b 2) (g3 : a 3 = b 3) (g4 : a 4 = b 4) (g5 : a 5 = b 5) : ∀ i, i < 6 → a i = b i := fun i hi => by
  have h : i = 0 ∨ i = 1 ∨ i = 2 ∨ i = 3 ∨ i = 4 ∨ i = 5 := by omega
  rcases h with rfl | rfl | rfl | rfl | rfl | rfl <;> assumption
/-- a message's cells -/
def mcells (n : Nat → Int) (d : ByteArray) (v : Value) : Array Value := #[.int .i64 (n 0), .int .i64 (n 1), .int .i64 (n 2), .int .i64 (n 3), .int .i64 (n 4), .int .i64 (n 5), .string d, v]
end RW
/-- a value that is a list of strings -/
def StrsV (W : World) (v : Value) (l : List ByteArray) : Prop :=
  ∃ a cap, v = .slice a l.length cap ∧ l.length ≤ cap ∧ (l = [] ∨ ∃ b o, a = some ⟨b, o, none⟩ ∧ b < W.heap.size ∧ ∀ i, i < l.length → W.cell? ⟨b, o + i, none⟩ = some (.string (l.getD i ⟨#[]⟩)))
theorem StrsV.next {W W' : World} {v : Value} {l : List ByteArray} (h : StrsV W v l) (hB : Below W.heap.size W W') : StrsV W' v l := by
  obtain ⟨a, cap, hv, hk, h⟩ := h
  refine ⟨a, cap, hv, hk, h.imp id fun ⟨b, o, ha, hb, hc⟩ => ⟨b, o, ha, Nat.lt_of_lt_of_le hb hB.size, fun i hi => ?_⟩⟩
  exact (World.cell?_of_block (a := ⟨b, o + i, none⟩) (hB.block _ hb)).trans (hc i hi)
theorem asc_v {W : World} {v : Value} {l : List ByteArray} (h : StrsV W v l) (hl : l.length ≤ 140737488355328) : Calls Tryd.prog 50 #[v] W fun e w' => e = .returned (.bool (RW.asc (RW.bl l))) ∧ W = w' := by
  obtain ⟨a, cap, rfl, _, h | ⟨b, o, rfl, _, hc⟩⟩ := h
  · subst h; exact asc_none a cap W
  · exact asc_any b o cap l hl W hc
theorem contains_none (a : Option Addr) (cap : Nat) (w : World) : Calls Tryd.prog 48 #[.slice a 0 cap, .func (.func 49) #[] #[]] w fun e w' => e = .returned (.bool false) ∧ w = w' := by
  have hI : ∀ W, Calls Tryd.prog 67 #[.slice a 0 cap, .func (.func 49) #[] #[]] W fun e w' => e = .returned (.int .i64 (-1)) ∧ W = w' := by
    intro W
    go_enter Tryd.func67, Tryd.ntmps67
    go_wp2
    refine wp_loop_rounds 1 ?_
    rw [rounds_succ]
    go_wp2
    go_ret
    exact ⟨rfl, rfl⟩
  have hIH := hide hI
  clear hI
  go_enter Tryd.func48, Tryd.ntmps48
  go_wp2_with (go_at_call 67; refine (hIH.out _).mono ?_; rintro e w' ⟨rfl, rfl⟩)
  go_ret
  exact ⟨rfl, rfl⟩
theorem contains_v {W : World} {v : Value} {l : List ByteArray} (h : StrsV W v l) (hl : l.length ≤ 140737488355328) (hs : ∀ s ∈ l, s.size ≤ 9223372036854775807) :
    Calls Tryd.prog 48 #[v, .func (.func 49) #[] #[]] W fun e w' => e = .returned (.bool (l.any RW.longB)) ∧ W = w' := by
  obtain ⟨a, cap, rfl, _, h | ⟨b, o, rfl, _, hc⟩⟩ := h
  · subst h; exact contains_none a cap W
  · exact contains_any b o cap l hl hs W hc
theorem equal_v {W : World} {v u : Value} {l m : List ByteArray} (h : StrsV W v l) (h2 : StrsV W u m) (hl : l.length ≤ 140737488355328) (hm : m.length ≤ 140737488355328) :
    Calls Tryd.prog 54 #[v, u] W (EqlPost (decide (l = m)) W) := by
  obtain ⟨a, cap, rfl, _, h⟩ := h
  obtain ⟨a2, cap2, rfl, _, h2⟩ := h2
  by_cases hne : l.length = m.length
  · rcases h with h | ⟨b, o, rfl, _, hc⟩
    · subst h
      have hm0 : m = [] := List.length_eq_zero_iff.1 hne.symm
      subst hm0
      exact equal_none a a2 cap cap2 W
    · rcases h2 with h2 | ⟨b2, o2, rfl, _, hc2⟩
      · subst h2
        have hl0 : l = [] := List.length_eq_zero_iff.1 hne
        subst hl0
        exact equal_none _ a2 cap cap2 W
      · rw [← hne]
        exact equal_any b o cap b2 o2 cap2 l m hl hne.symm W hc (fun i hi => hc2 i (by omega))
  · rw [decide_eq_false (fun h => hne (by rw [h]))]
    exact equal_len _ _ _ _ _ _ hl hm hne W
theorem eql_six (a b : Nat → Int) (W : World) : (binOp .eql 68 (.agg (RW.six6 a)) (.agg (RW.six6 b))).run Tryd.prog W = .ok (.bool (RW.dec (∀ i, i < 6 → a i = b i))) W := by
  have hr5 : (Tryd.prog.info? 3).map (·.size) = some 1 := by kernel_rfl
  obtain ⟨inf, hq, h2⟩ := Option.map_eq_some_iff.1 hr5
  have hp : ∀ (X : Array Value) (i : Nat) (v : Value), X[i]? = some v → (part 3 X i).run Tryd.prog W = .ok v W := fun X i v h => by
    simp [part, isAgg, run_underlying Tryd.underlying3, h]
  have hz : (sizeOf 3).run Tryd.prog W = .ok 1 W := by simp [sizeOf, typeInfo, hq, h2]
  rw [run_eql_struct]
  have h : (Op.equalIn (9999 + 1) 68 (.agg #[.int .i64 (a 0), .int .i64 (a 1), .int .i64 (a 2), .int .i64 (a 3), .int .i64 (a 4), .int .i64 (a 5)]) (.agg #[.int .i64 (b 0), .int .i64 (b 1), .int .i64 (b 2), .int .i64 (b 3), .int .i64 (b 4), .int .i64 (b 5)])).run Tryd.prog W = .ok (RW.dec (∀ i, i < 6 → a i = b i)) W := by
    unfold Op.equalIn
    simp only [Sem.run_bind, run_underlying Tryd.underlying68, Result.andThen_ok, hz, Std.Legacy.Range.forIn_eq_forIn_range', Std.Legacy.Range.size]
    rw [show List.range' 0 ((6 - 0 + 1 - 1) / 1) = [0, 1, 2, 3, 4, 5] from rfl]
    have e : ∀ x y : Int, (Op.equalIn 9999 3 (.int .i64 x) (.int .i64 y)).run Tryd.prog W = .ok (x == y) W := fun x y => run_equalIn_int W 9998 3 .i64 .i64 x y Tryd.underlying3
    by_cases g0 : a 0 = b 0
    · skip
      by_cases g1 : a 1 = b 1
      · skip
        by_cases g2 : a 2 = b 2
        · skip
          by_cases g3 : a 3 = b 3
          · skip
            by_cases g4 : a 4 = b 4
            · skip
              by_cases g5 : a 5 = b 5
              · skip
                rw [RW.dec_true (RW.all6 g0 g1 g2 g3 g4 g5)]
                have x0 := hp #[.int .i64 (a 0), .int .i64 (a 1), .int .i64 (a 2), .int .i64 (a 3), .int .i64 (a 4), .int .i64 (a 5)] 0 _ rfl
                have y0 := hp #[.int .i64 (b 0), .int .i64 (b 1), .int .i64 (b 2), .int .i64 (b 3), .int .i64 (b 4), .int .i64 (b 5)] 0 _ rfl
                have x1 := hp #[.int .i64 (a 0), .int .i64 (a 1), .int .i64 (a 2), .int .i64 (a 3), .int .i64 (a 4), .int .i64 (a 5)] 1 _ rfl
                have y1 := hp #[.int .i64 (b 0), .int .i64 (b 1), .int .i64 (b 2), .int .i64 (b 3), .int .i64 (b 4), .int .i64 (b 5)] 1 _ rfl
                have x2 := hp #[.int .i64 (a 0), .int .i64 (a 1), .int .i64 (a 2), .int .i64 (a 3), .int .i64 (a 4), .int .i64 (a 5)] 2 _ rfl
                have y2 := hp #[.int .i64 (b 0), .int .i64 (b 1), .int .i64 (b 2), .int .i64 (b 3), .int .i64 (b 4), .int .i64 (b 5)] 2 _ rfl
                have x3 := hp #[.int .i64 (a 0), .int .i64 (a 1), .int .i64 (a 2), .int .i64 (a 3), .int .i64 (a 4), .int .i64 (a 5)] 3 _ rfl
                have y3 := hp #[.int .i64 (b 0), .int .i64 (b 1), .int .i64 (b 2), .int .i64 (b 3), .int .i64 (b 4), .int .i64 (b 5)] 3 _ rfl
                have x4 := hp #[.int .i64 (a 0), .int .i64 (a 1), .int .i64 (a 2), .int .i64 (a 3), .int .i64 (a 4), .int .i64 (a 5)] 4 _ rfl
                have y4 := hp #[.int .i64 (b 0), .int .i64 (b 1), .int .i64 (b 2), .int .i64 (b 3), .int .i64 (b 4), .int .i64 (b 5)] 4 _ rfl
                have x5 := hp #[.int .i64 (a 0), .int .i64 (a 1), .int .i64 (a 2), .int .i64 (a 3), .int .i64 (a 4), .int .i64 (a 5)] 5 _ rfl
                have y5 := hp #[.int .i64 (b 0), .int .i64 (b 1), .int .i64 (b 2), .int .i64 (b 3), .int .i64 (b 4), .int .i64 (b 5)] 5 _ rfl
                have e0 : (Op.equalIn 9999 3 (.int .i64 (a 0)) (.int .i64 (b 0))).run Tryd.prog W = .ok true W := by rw [e]; simp [g0]
                have e1 : (Op.equalIn 9999 3 (.int .i64 (a 1)) (.int .i64 (b 1))).run Tryd.prog W = .ok true W := by rw [e]; simp [g1]
                have e2 : (Op.equalIn 9999 3 (.int .i64 (a 2)) (.int .i64 (b 2))).run Tryd.prog W = .ok true W := by rw [e]; simp [g2]
                have e3 : (Op.equalIn 9999 3 (.int .i64 (a 3)) (.int .i64 (b 3))).run Tryd.prog W = .ok true W := by rw [e]; simp [g3]
                have e4 : (Op.equalIn 9999 3 (.int .i64 (a 4)) (.int .i64 (b 4))).run Tryd.prog W = .ok true W := by rw [e]; simp [g4]
                have e5 : (Op.equalIn 9999 3 (.int .i64 (a 5)) (.int .i64 (b 5))).run Tryd.prog W = .ok true W := by rw [e]; simp [g5]
                simp [List.forIn_cons, x0, y0, x1, y1, x2, y2, x3, y3, x4, y4, x5, y5, e0, e1, e2, e3, e4, e5]
              · rw [RW.dec_false (fun h => g5 (h 5 (by decide)))]
                have x0 := hp #[.int .i64 (a 0), .int .i64 (a 1), .int .i64 (a 2), .int .i64 (a 3), .int .i64 (a 4), .int .i64 (a 5)] 0 _ rfl
                have y0 := hp #[.int .i64 (b 0), .int .i64 (b 1), .int .i64 (b 2), .int .i64 (b 3), .int .i64 (b 4), .int .i64 (b 5)] 0 _ rfl
                have x1 := hp #[.int .i64 (a 0), .int .i64 (a 1), .int .i64 (a 2), .int .i64 (a 3), .int .i64 (a 4), .int .i64 (a 5)] 1 _ rfl
                have y1 := hp #[.int .i64 (b 0), .int .i64 (b 1), .int .i64 (b 2), .int .i64 (b 3), .int .i64 (b 4), .int .i64 (b 5)] 1 _ rfl
                have x2 := hp #[.int .i64 (a 0), .int .i64 (a 1), .int .i64 (a 2), .int .i64 (a 3), .int .i64 (a 4), .int .i64 (a 5)] 2 _ rfl
                have y2 := hp #[.int .i64 (b 0), .int .i64 (b 1), .int .i64 (b 2), .int .i64 (b 3), .int .i64 (b 4), .int .i64 (b 5)] 2 _ rfl
                have x3 := hp #[.int .i64 (a 0), .int .i64 (a 1), .int .i64 (a 2), .int .i64 (a 3), .int .i64 (a 4), .int .i64 (a 5)] 3 _ rfl
                have y3 := hp #[.int .i64 (b 0), .int .i64 (b 1), .int .i64 (b 2), .int .i64 (b 3), .int .i64 (b 4), .int .i64 (b 5)] 3 _ rfl
                have x4 := hp #[.int .i64 (a 0), .int .i64 (a 1), .int .i64 (a 2), .int .i64 (a 3), .int .i64 (a 4), .int .i64 (a 5)] 4 _ rfl
                have y4 := hp #[.int .i64 (b 0), .int .i64 (b 1), .int .i64 (b 2), .int .i64 (b 3), .int .i64 (b 4), .int .i64 (b 5)] 4 _ rfl
                have x5 := hp #[.int .i64 (a 0), .int .i64 (a 1), .int .i64 (a 2), .int .i64 (a 3), .int .i64 (a 4), .int .i64 (a 5)] 5 _ rfl
                have y5 := hp #[.int .i64 (b 0), .int .i64 (b 1), .int .i64 (b 2), .int .i64 (b 3), .int .i64 (b 4), .int .i64 (b 5)] 5 _ rfl
                have e0 : (Op.equalIn 9999 3 (.int .i64 (a 0)) (.int .i64 (b 0))).run Tryd.prog W = .ok true W := by rw [e]; simp [g0]
                have e1 : (Op.equalIn 9999 3 (.int .i64 (a 1)) (.int .i64 (b 1))).run Tryd.prog W = .ok true W := by rw [e]; simp [g1]
                have e2 : (Op.equalIn 9999 3 (.int .i64 (a 2)) (.int .i64 (b 2))).run Tryd.prog W = .ok true W := by rw [e]; simp [g2]
                have e3 : (Op.equalIn 9999 3 (.int .i64 (a 3)) (.int .i64 (b 3))).run Tryd.prog W = .ok true W := by rw [e]; simp [g3]
                have e4 : (Op.equalIn 9999 3 (.int .i64 (a 4)) (.int .i64 (b 4))).run Tryd.prog W = .ok true W := by rw [e]; simp [g4]
                have e5 : (Op.equalIn 9999 3 (.int .i64 (a 5)) (.int .i64 (b 5))).run Tryd.prog W = .ok false W := by rw [e]; simp [g5]
                simp [List.forIn_cons, x0, y0, x1, y1, x2, y2, x3, y3, x4, y4, x5, y5, e0, e1, e2, e3, e4, e5]
            · rw [RW.dec_false (fun h => g4 (h 4 (by decide)))]
              have x0 := hp #[.int .i64 (a 0), .int .i64 (a 1), .int .i64 (a 2), .int .i64 (a 3), .int .i64 (a 4), .int .i64 (a 5)] 0 _ rfl
              have y0 := hp #[.int .i64 (b 0), .int .i64 (b 1), .int .i64 (b 2), .int .i64 (b 3), .int .i64 (b 4), .int .i64 (b 5)] 0 _ rfl
              have x1 := hp #[.int .i64 (a 0), .int .i64 (a 1), .int .i64 (a 2), .int .i64 (a 3), .int .i64 (a 4), .int .i64 (a 5)] 1 _ rfl
              have y1 := hp #[.int .i64 (b 0), .int .i64 (b 1), .int .i64 (b 2), .int .i64 (b 3), .int .i64 (b 4), .int .i64 (b 5)] 1 _ rfl
              have x2 := hp #[.int .i64 (a 0), .int .i64 (a 1), .int .i64 (a 2), .int .i64 (a 3), .int .i64 (a 4), .int .i64 (a 5)] 2 _ rfl
              have y2 := hp #[.int .i64 (b 0), .int .i64 (b 1), .int .i64 (b 2), .int .i64 (b 3), .int .i64 (b 4), .int .i64 (b 5)] 2 _ rfl
              have x3 := hp #[.int .i64 (a 0), .int .i64 (a 1), .int .i64 (a 2), .int .i64 (a 3), .int .i64 (a 4), .int .i64 (a 5)] 3 _ rfl
              have y3 := hp #[.int .i64 (b 0), .int .i64 (b 1), .int .i64 (b 2), .int .i64 (b 3), .int .i64 (b 4), .int .i64 (b 5)] 3 _ rfl
              have x4 := hp #[.int .i64 (a 0), .int .i64 (a 1), .int .i64 (a 2), .int .i64 (a 3), .int .i64 (a 4), .int .i64 (a 5)] 4 _ rfl
              have y4 := hp #[.int .i64 (b 0), .int .i64 (b 1), .int .i64 (b 2), .int .i64 (b 3), .int .i64 (b 4), .int .i64 (b 5)] 4 _ rfl
              have e0 : (Op.equalIn 9999 3 (.int .i64 (a 0)) (.int .i64 (b 0))).run Tryd.prog W = .ok true W := by rw [e]; simp [g0]
              have e1 : (Op.equalIn 9999 3 (.int .i64 (a 1)) (.int .i64 (b 1))).run Tryd.prog W = .ok true W := by rw [e]; simp [g1]
              have e2 : (Op.equalIn 9999 3 (.int .i64 (a 2)) (.int .i64 (b 2))).run Tryd.prog W = .ok true W := by rw [e]; simp [g2]
              have e3 : (Op.equalIn 9999 3 (.int .i64 (a 3)) (.int .i64 (b 3))).run Tryd.prog W = .ok true W := by rw [e]; simp [g3]
              have e4 : (Op.equalIn 9999 3 (.int .i64 (a 4)) (.int .i64 (b 4))).run Tryd.prog W = .ok false W := by rw [e]; simp [g4]
              simp [List.forIn_cons, x0, y0, x1, y1, x2, y2, x3, y3, x4, y4, e0, e1, e2, e3, e4]
          · rw [RW.dec_false (fun h => g3 (h 3 (by decide)))]
            have x0 := hp #[.int .i64 (a 0), .int .i64 (a 1), .int .i64 (a 2), .int .i64 (a 3), .int .i64 (a 4), .int .i64 (a 5)] 0 _ rfl
            have y0 := hp #[.int .i64 (b 0), .int .i64 (b 1), .int .i64 (b 2), .int .i64 (b 3), .int .i64 (b 4), .int .i64 (b 5)] 0 _ rfl
            have x1 := hp #[.int .i64 (a 0), .int .i64 (a 1), .int .i64 (a 2), .int .i64 (a 3), .int .i64 (a 4), .int .i64 (a 5)] 1 _ rfl
            have y1 := hp #[.int .i64 (b 0), .int .i64 (b 1), .int .i64 (b 2), .int .i64 (b 3), .int .i64 (b 4), .int .i64 (b 5)] 1 _ rfl
            have x2 := hp #[.int .i64 (a 0), .int .i64 (a 1), .int .i64 (a 2), .int .i64 (a 3), .int .i64 (a 4), .int .i64 (a 5)] 2 _ rfl
            have y2 := hp #[.int .i64 (b 0), .int .i64 (b 1), .int .i64 (b 2), .int .i64 (b 3), .int .i64 (b 4), .int .i64 (b 5)] 2 _ rfl
            have x3 := hp #[.int .i64 (a 0), .int .i64 (a 1), .int .i64 (a 2), .int .i64 (a 3), .int .i64 (a 4), .int .i64 (a 5)] 3 _ rfl
            have y3 := hp #[.int .i64 (b 0), .int .i64 (b 1), .int .i64 (b 2), .int .i64 (b 3), .int .i64 (b 4), .int .i64 (b 5)] 3 _ rfl
            have e0 : (Op.equalIn 9999 3 (.int .i64 (a 0)) (.int .i64 (b 0))).run Tryd.prog W = .ok true W := by rw [e]; simp [g0]
            have e1 : (Op.equalIn 9999 3 (.int .i64 (a 1)) (.int .i64 (b 1))).run Tryd.prog W = .ok true W := by rw [e]; simp [g1]
            have e2 : (Op.equalIn 9999 3 (.int .i64 (a 2)) (.int .i64 (b 2))).run Tryd.prog W = .ok true W := by rw [e]; simp [g2]
            have e3 : (Op.equalIn 9999 3 (.int .i64 (a 3)) (.int .i64 (b 3))).run Tryd.prog W = .ok false W := by rw [e]; simp [g3]
            simp [List.forIn_cons, x0, y0, x1, y1, x2, y2, x3, y3, e0, e1, e2, e3]
        · rw [RW.dec_false (fun h => g2 (h 2 (by decide)))]
          have x0 := hp #[.int .i64 (a 0), .int .i64 (a 1), .int .i64 (a 2), .int .i64 (a 3), .int .i64 (a 4), .int .i64 (a 5)] 0 _ rfl
          have y0 := hp #[.int .i64 (b 0), .int .i64 (b 1), .int .i64 (b 2), .int .i64 (b 3), .int .i64 (b 4), .int .i64 (b 5)] 0 _ rfl
          have x1 := hp #[.int .i64 (a 0), .int .i64 (a 1), .int .i64 (a 2), .int .i64 (a 3), .int .i64 (a 4), .int .i64 (a 5)] 1 _ rfl
          have y1 := hp #[.int .i64 (b 0), .int .i64 (b 1), .int .i64 (b 2), .int .i64 (b 3), .int .i64 (b 4), .int .i64 (b 5)] 1 _ rfl
          have x2 := hp #[.int .i64 (a 0), .int .i64 (a 1), .int .i64 (a 2), .int .i64 (a 3), .int .i64 (a 4), .int .i64 (a 5)] 2 _ rfl
          have y2 := hp #[.int .i64 (b 0), .int .i64 (b 1), .int .i64 (b 2), .int .i64 (b 3), .int .i64 (b 4), .int .i64 (b 5)] 2 _ rfl
          have e0 : (Op.equalIn 9999 3 (.int .i64 (a 0)) (.int .i64 (b 0))).run Tryd.prog W = .ok true W := by rw [e]; simp [g0]
          have e1 : (Op.equalIn 9999 3 (.int .i64 (a 1)) (.int .i64 (b 1))).run Tryd.prog W = .ok true W := by rw [e]; simp [g1]
          have e2 : (Op.equalIn 9999 3 (.int .i64 (a 2)) (.int .i64 (b 2))).run Tryd.prog W = .ok false W := by rw [e]; simp [g2]
          simp [List.forIn_cons, x0, y0, x1, y1, x2, y2, e0, e1, e2]
      · rw [RW.dec_false (fun h => g1 (h 1 (by decide)))]
        have x0 := hp #[.int .i64 (a 0), .int .i64 (a 1), .int .i64 (a 2), .int .i64 (a 3), .int .i64 (a 4), .int .i64 (a 5)] 0 _ rfl
        have y0 := hp #[.int .i64 (b 0), .int .i64 (b 1), .int .i64 (b 2), .int .i64 (b 3), .int .i64 (b 4), .int .i64 (b 5)] 0 _ rfl
        have x1 := hp #[.int .i64 (a 0), .int .i64 (a 1), .int .i64 (a 2), .int .i64 (a 3), .int .i64 (a 4), .int .i64 (a 5)] 1 _ rfl
        have y1 := hp #[.int .i64 (b 0), .int .i64 (b 1), .int .i64 (b 2), .int .i64 (b 3), .int .i64 (b 4), .int .i64 (b 5)] 1 _ rfl
        have e0 : (Op.equalIn 9999 3 (.int .i64 (a 0)) (.int .i64 (b 0))).run Tryd.prog W = .ok true W := by rw [e]; simp [g0]
        have e1 : (Op.equalIn 9999 3 (.int .i64 (a 1)) (.int .i64 (b 1))).run Tryd.prog W = .ok false W := by rw [e]; simp [g1]
        simp [List.forIn_cons, x0, y0, x1, y1, e0, e1]
    · rw [RW.dec_false (fun h => g0 (h 0 (by decide)))]
      have x0 := hp #[.int .i64 (a 0), .int .i64 (a 1), .int .i64 (a 2), .int .i64 (a 3), .int .i64 (a 4), .int .i64 (a 5)] 0 _ rfl
      have y0 := hp #[.int .i64 (b 0), .int .i64 (b 1), .int .i64 (b 2), .int .i64 (b 3), .int .i64 (b 4), .int .i64 (b 5)] 0 _ rfl
      have e0 : (Op.equalIn 9999 3 (.int .i64 (a 0)) (.int .i64 (b 0))).run Tryd.prog W = .ok false W := by rw [e]; simp [g0]
      simp [List.forIn_cons, x0, y0, e0]
  show ((Op.equalIn (9999 + 1) 68 (.agg #[.int .i64 (a 0), .int .i64 (a 1), .int .i64 (a 2), .int .i64 (a 3), .int .i64 (a 4), .int .i64 (a 5)]) (.agg #[.int .i64 (b 0), .int .i64 (b 1), .int .i64 (b 2), .int .i64 (b 3), .int .i64 (b 4), .int .i64 (b 5)])).run Tryd.prog W).andThen _ = _
  rw [h]
  rfl
end Go.Proofs.YtcbckcojebanaaaDoor

/-
  Package ballot: messages in memory; Same: what it returns; only new memory is written.
-/
namespace Go.Proofs.YtcbckcojebanaaaDoor
open Go.RowKit
/-- at a statement's head: the world is forgotten but for what is said of it -/
theorem gen_world {P : Program} {c : Code} {Q : Exit → Act → World → Prop} {a : Act} {W : World} (R : World → Prop) (hR : R W) (h : ∀ W', R W' → Code.wp P c Q a W') : Code.wp P c Q a W := h W hR
theorem cell_at {w : World} {g : Nat} {cs : Array Value} {t : TypeId} {fr : Nat × Nat} (h : w.heap[g]? = some (.cells cs t fr)) (i : Nat) : w.cell? ⟨g, i, none⟩ = cs[i]? := by simp [World.cell?, h]
/-- variables that hold messages -/
structure MRows (l : List (Nat × Array Value)) (w W : World) : Prop where
  below : Below w.heap.size w W
  rows : ∀ x ∈ l, W.heap[x.1]? = some (.cells x.2 24 (0, 0))
section
variable {l : List (Nat × Array Value)} {w W W' : World}
theorem MRows.nil (hB : Below w.heap.size w W) : MRows [] w W := ⟨hB, by simp⟩
theorem MRows.lt (h : MRows l w W) (x : Nat × Array Value) (hx : x ∈ l) : x.1 < W.heap.size := (Array.getElem?_eq_some_iff.1 (h.rows x hx)).1
theorem MRows.next (h : MRows l w W) (hB : Below W.heap.size W W') : MRows l w W' :=
  ⟨h.below.trans (hB.mono h.below.size), fun x hx => (hB.block _ (h.lt x hx)).trans (h.rows x hx)⟩
theorem MRows.new (h : MRows l w W) (cs : Array Value) : MRows ((W.heap.size, cs) :: l) w (W.alloc (.cells cs 24)) :=
  ⟨h.below.alloc h.below.size _, fun x hx => by
    rcases List.mem_cons.1 hx with rfl | hx
    · exact heap_alloc_new _ _
    · exact (Below.heap_alloc _ _ _ (h.lt x hx)).trans (h.rows x hx)⟩
theorem MRows.drewN (h : MRows l w W) (n : Nat) : MRows l w (W.drewN n) := ⟨⟨h.below.os, h.below.tape, h.below.output, h.below.size, h.below.block⟩, h.rows⟩
theorem MRows.sub {l' : List (Nat × Array Value)} (h : MRows l w W) (hs : ∀ x ∈ l', x ∈ l) : MRows l' w W := ⟨h.below, fun x hx => h.rows x (hs x hx)⟩
theorem MRows.cell (h : MRows l w W) (b : Nat) (cs : Array Value) (hx : (b, cs) ∈ l) (j : Nat) : W.cell? ⟨b, j, none⟩ = cs[j]? := cell_at (h.rows _ hx) j
end
set_option maxRecDepth 100000 in
set_option maxHeartbeats 4000000 in
theorem same_any (n n2 : Nat → Int) (d d2 : ByteArray) (v v2 : Value) (l l2 : List ByteArray) (w : World) (hv : StrsV w v l) (hv2 : StrsV w v2 l2) (hl : l.length ≤ 140737488355328) (hl2 : l2.length ≤ 140737488355328) :
    Calls Tryd.prog 16 #[.agg (RW.mcells n d v), .agg (RW.mcells n2 d2 v2)] w fun e w' => e = .returned (.bool ((decide (l = l2) && decide (d = d2)) && RW.dec (∀ i, i < 6 → n i = n2 i))) ∧ Below w.heap.size w w' := by
  obtain ⟨q, hq⟩ : ∃ q, q = decide (l = l2) := ⟨_, rfl⟩
  obtain ⟨z, hz⟩ : ∃ q, q = RW.dec (∀ i, i < 6 → n i = n2 i) := ⟨_, rfl⟩
  have hE : ∀ W, Below w.heap.size w W → Calls Tryd.prog 54 #[v, v2] W (EqlPost q W) := fun W hB => by rw [hq]; exact equal_v (hv.next hB) (hv2.next hB) hl hl2
  have h6 := fun W => eql_six n n2 W
  rw [← hz] at h6
  rw [← hq, ← hz]
  have hEH := hide hE
  have h6H := hide h6
  obtain ⟨cs, hcs⟩ : ∃ cs, cs = RW.mcells n d v := ⟨_, rfl⟩
  obtain ⟨ds, hds⟩ : ∃ cs, cs = RW.mcells n2 d2 v2 := ⟨_, rfl⟩
  rw [← hcs, ← hds]
  have hcsH := hide hcs
  have hdsH := hide hds
  clear hq hz hE h6 hcs hds hv hv2
  go_enter Tryd.func16, Tryd.ntmps16
  go_upto_region 1 with fail
  obtain ⟨b1, hb1⟩ : ∃ b, b = w.heap.size := ⟨_, rfl⟩
  obtain ⟨b2, hb2⟩ : ∃ b, b = w.heap.size + 1 := ⟨_, rfl⟩
  have hR := (MRows.new (MRows.nil (Below.refl w.heap.size w)) cs).new ds
  rw [show (w.alloc (.cells cs 24)).heap.size = b2 by rw [hb2]; simp, ← hb1] at hR
  rw [← hb1] at ⊢
  rw [show b1 + 1 = b2 by omega]
  refine gen_world (MRows [(b2, ds), (b1, cs)] w) hR ?_
  clear hR hb1 hb2
  intro W hF
  have c7 : W.cell? ⟨b1, 7, none⟩ = some v := by rw [hF.cell b1 cs (by simp), hcsH.out]; rfl
  have e7 : W.cell? ⟨b2, 7, none⟩ = some v2 := by rw [hF.cell b2 ds (by simp), hdsH.out]; rfl
  have hEW := hide (hEH.out W hF.below)
  go_wp2_with fail
  refine hEW.out.mono ?_
  rintro e w2 ⟨rfl, k, rfl⟩
  have hF2 := hF.drewN k
  clear hF c7 e7 hEW
  generalize W.drewN k = w3 at hF2 ⊢
  have c0 : w3.cell? ⟨b1, 0, none⟩ = some (.int .i64 (n 0)) := by rw [hF2.cell b1 cs (by simp), hcsH.out]; rfl
  have e0 : w3.cell? ⟨b2, 0, none⟩ = some (.int .i64 (n2 0)) := by rw [hF2.cell b2 ds (by simp), hdsH.out]; rfl
  have c1 : w3.cell? ⟨b1, 1, none⟩ = some (.int .i64 (n 1)) := by rw [hF2.cell b1 cs (by simp), hcsH.out]; rfl
  have e1 : w3.cell? ⟨b2, 1, none⟩ = some (.int .i64 (n2 1)) := by rw [hF2.cell b2 ds (by simp), hdsH.out]; rfl
  have c2 : w3.cell? ⟨b1, 2, none⟩ = some (.int .i64 (n 2)) := by rw [hF2.cell b1 cs (by simp), hcsH.out]; rfl
  have e2 : w3.cell? ⟨b2, 2, none⟩ = some (.int .i64 (n2 2)) := by rw [hF2.cell b2 ds (by simp), hdsH.out]; rfl
  have c3 : w3.cell? ⟨b1, 3, none⟩ = some (.int .i64 (n 3)) := by rw [hF2.cell b1 cs (by simp), hcsH.out]; rfl
  have e3 : w3.cell? ⟨b2, 3, none⟩ = some (.int .i64 (n2 3)) := by rw [hF2.cell b2 ds (by simp), hdsH.out]; rfl
  have c4 : w3.cell? ⟨b1, 4, none⟩ = some (.int .i64 (n 4)) := by rw [hF2.cell b1 cs (by simp), hcsH.out]; rfl
  have e4 : w3.cell? ⟨b2, 4, none⟩ = some (.int .i64 (n2 4)) := by rw [hF2.cell b2 ds (by simp), hdsH.out]; rfl
  have c5 : w3.cell? ⟨b1, 5, none⟩ = some (.int .i64 (n 5)) := by rw [hF2.cell b1 cs (by simp), hcsH.out]; rfl
  have e5 : w3.cell? ⟨b2, 5, none⟩ = some (.int .i64 (n2 5)) := by rw [hF2.cell b2 ds (by simp), hdsH.out]; rfl
  have c6 : w3.cell? ⟨b1, 6, none⟩ = some (.string d) := by rw [hF2.cell b1 cs (by simp), hcsH.out]; rfl
  have e6 : w3.cell? ⟨b2, 6, none⟩ = some (.string d2) := by rw [hF2.cell b2 ds (by simp), hdsH.out]; rfl
  have h6 := h6H.out
  simp only [RW.six6] at h6
  have hBf := hide hF2.below
  clear hF2
  cases q
  · go_wp2
    go_ret
    exact ⟨rfl, hBf.out⟩
  · by_cases hd : d = d2
    · have hdH := hide (show decide (d = d2) = true from decide_eq_true hd)
      subst hd
      clear hdH
      go_wp2
      go_ret
      exact ⟨by first | rfl | (show Ending.returned (.bool z) = _; simp), hBf.out⟩
    · have hdH := hide (show decide (d = d2) = false from decide_eq_false hd)
      have x1 := RW.bytes_ne hd
      have hd2 := hide hd
      clear hd
      go_wp2
      go_ret
      exact ⟨by first | rfl | (rw [hdH.out] <;> rfl), hBf.out⟩
end Go.Proofs.YtcbckcojebanaaaDoor

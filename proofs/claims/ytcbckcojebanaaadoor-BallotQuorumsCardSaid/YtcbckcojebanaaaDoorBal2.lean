/-
  Package ballot: ascending (and the reference's IDs): lists of strings in memory; the world as it was.
-/
import Derived.Test.YtcbckcojebanaaaDoorBal1
namespace Go.Proofs.YtcbckcojebanaaaDoor
open Go.RowKit
namespace RW
def bl (l : List ByteArray) : List (List UInt8) := l.map fun s => s.data.toList
/-- an ID's condition in its place -/
def condK (l : List ByteArray) (k : Nat) : Bool :=
  ((l.getD k ⟨#[]⟩).size == 32) && (k == 0 || !(Op.bytesLess (l.getD k ⟨#[]⟩).toList (l.getD (k - 1) ⟨#[]⟩).toList || (l.getD k ⟨#[]⟩).toList == (l.getD (k - 1) ⟨#[]⟩).toList))
def okS (p : Option (List UInt8)) (s : List UInt8) : Bool := (s.length == 32) && (match p with | none => true | some q => !(Op.bytesLess s q || s == q))
theorem ascTo_cons (p : Option (List UInt8)) (s : List UInt8) (l : List (List UInt8)) : ascTo p (s :: l) = (okS p s && ascTo (some s) l) := by
  cases p <;> simp [ascTo, okS]
def lastP : Option (List UInt8) → List (List UInt8) → Option (List UInt8)
  | p, [] => p
  | _, s :: l => lastP (some s) l
theorem ascTo_snoc : ∀ (p : Option (List UInt8)) (l : List (List UInt8)) (s : List UInt8), ascTo p (l ++ [s]) = (ascTo p l && okS (lastP p l) s)
  | p, [], s => by simp [ascTo_cons, ascTo, lastP]
  | p, t :: l, s => by rw [List.cons_append, ascTo_cons, ascTo_cons, ascTo_snoc (some t) l s, lastP, Bool.and_assoc]
theorem lastP_take : ∀ (p : Option (List UInt8)) (l : List (List UInt8)) (k : Nat), 0 < k → k ≤ l.length → lastP p (l.take k) = some (l.getD (k - 1) [])
  | p, [], k, h, h2 => by simp at h2; omega
  | p, t :: l, 1, _, _ => by simp [lastP]
  | p, t :: l, k + 2, _, h2 => by
    rw [List.take_succ_cons, lastP, lastP_take (some t) l (k + 1) (by omega) (by simp at h2; omega)]
    simp
theorem bl_get (l : List ByteArray) (k : Nat) (h : k < l.length) : (bl l).getD k [] = (l.getD k ⟨#[]⟩).data.toList := by
  simp [bl, List.getD, List.getElem?_eq_getElem h]
theorem asc_step (l : List ByteArray) (k : Nat) (h : k < l.length) : ascTo none ((bl l).take (k + 1)) = (ascTo none ((bl l).take k) && condK l k) := by
  have hl : k < (bl l).length := by simp [bl]; exact h
  rw [List.take_succ_eq_append_getElem hl, ascTo_snoc]
  congr 1
  have e : (bl l)[k] = (l.getD k ⟨#[]⟩).data.toList := by rw [← bl_get l k h, List.getD, List.getElem?_eq_getElem hl]; rfl
  rw [e]
  unfold okS condK
  have hsz : ((l.getD k ⟨#[]⟩).data.toList.length == 32) = ((l.getD k ⟨#[]⟩).size == 32) := by rw [Array.length_toList]; rfl
  rw [hsz]
  congr 1
  rcases Nat.eq_zero_or_pos k with rfl | hk
  · rfl
  · rw [lastP_take none _ k hk (by omega), bl_get l (k - 1) (by omega)]
    simp only [ByteArray.toList_eq]
    have : (k == 0) = false := by simp; omega
    rw [this, Bool.false_or]
theorem asc_prefix : ∀ (p : Option (List UInt8)) (l m : List (List UInt8)), ascTo p (l ++ m) = true → ascTo p l = true
  | _, [], _, _ => by simp [ascTo]
  | p, s :: l, m, h => by
    rw [List.cons_append, ascTo_cons, Bool.and_eq_true] at h
    rw [ascTo_cons, Bool.and_eq_true]
    exact ⟨h.1, asc_prefix _ _ _ h.2⟩
theorem asc_no (l : List ByteArray) (k : Nat) (h : k < l.length) (hc : condK l k = false) : asc (bl l) = false := by
  cases ha : asc (bl l) with
  | false => rfl
  | true =>
    unfold asc at ha
    rw [Bool.and_eq_true] at ha
    have h1 := asc_prefix none ((bl l).take (k + 1)) ((bl l).drop (k + 1)) (by rw [List.take_append_drop]; exact ha.1)
    rw [asc_step l k h, hc, Bool.and_false] at h1
    cases h1
end RW
set_option maxRecDepth 10000 in
set_option maxHeartbeats 4000000 in
theorem asc_any (b o cap : Nat) (l : List ByteArray) (hl : l.length ≤ 140737488355328) (w : World) (hc : ∀ i, i < l.length → w.cell? ⟨b, o + i, none⟩ = some (.string (l.getD i ⟨#[]⟩))) :
    Calls Tryd.prog 50 #[.slice (some ⟨b, o, none⟩) l.length cap] w fun e w' => e = .returned (.bool (RW.asc (RW.bl l))) ∧ w = w' := by
  have hcH := hide hc
  clear hc
  obtain ⟨n, hn⟩ : ∃ n, n = l.length := ⟨_, rfl⟩
  rw [← hn] at hl ⊢
  have hnH := hide hn
  clear hn
  go_enter Tryd.func50, Tryd.ntmps50
  go_wp2
  go_loop [7] (fun i => ∃ k : Nat, k ≤ n ∧ i = .int .i64 k ∧ Hid (RW.ascTo none ((RW.bl l).take k) = true)) (fun i => n - (intOf i).toNat)
  case atStart => exact ⟨0, Nat.zero_le _, rfl, rfl⟩
  case round =>
    obtain ⟨k, hk, rfl, ha⟩ := hrel
    by_cases hlt : k < n
    · have hkl : k < l.length := by rw [← hnH.out]; exact hlt
      have ck := hcH.out k hkl
      have hs := RW.asc_step l k hkl
      rw [ha.out, Bool.true_and] at hs
      have hno := RW.asc_no l k hkl
      have hsH := hide hs
      have hnoH := hide hno
      clear hs hno
      obtain ⟨s, hsd⟩ : ∃ s, s = l.getD k ⟨#[]⟩ := ⟨_, rfl⟩
      rw [← hsd] at ck
      have hsdH := hide hsd
      clear hsd
      by_cases h32 : s.size = 32
      · have e32 : ((s.size : Int) != 32) = false := by rw [h32]; rfl
        rcases Nat.eq_zero_or_pos k with hk0 | hkp
        · subst hk0
          rw [Nat.add_zero] at ck
          have hcond : RW.condK l 0 = true := by unfold RW.condK; rw [← hsdH.out]; simp [h32]
          rw [hcond] at hsH
          have h32H := hide h32
          clear h32
          go_wp2
          go_round
          case rel => exact ⟨1, by omega, by go_num, hsH.out⟩
          case measure => simp [intOf]; omega
        · have hp1 : (0 : Int) < (k : Int) := by omega
          have cp := hcH.out (k - 1) (by omega)
          obtain ⟨t, htd⟩ : ∃ t, t = l.getD (k - 1) ⟨#[]⟩ := ⟨_, rfl⟩
          rw [← htd] at cp
          have hcond : RW.condK l k = !(Op.bytesLess s.toList t.toList || s.toList == t.toList) := by
            unfold RW.condK
            rw [← hsdH.out, ← htd]
            have : (k == 0) = false := by simp; omega
            rw [this]
            simp [h32]
          have hcondH := hide hcond
          have htdH := hide htd
          have h32H := hide h32
          clear hcond htd h32
          obtain ⟨j, hj⟩ : ∃ j, k = j + 1 := ⟨k - 1, by omega⟩
          subst hj
          simp only [Nat.add_sub_cancel] at cp
          cases hb1 : Op.bytesLess s.toList t.toList
          · cases hb2 : (s.toList == t.toList)
            · have hc1 := hide (hcondH.out.trans (by rw [hb1, hb2]; rfl) : RW.condK l (j + 1) = true)
              go_wp2
              go_round
              case rel => exact ⟨j + 1 + 1, by omega, by go_num, hsH.out.trans hc1.out⟩
              case measure => simp [intOf]; omega
            · have hc1 := hide (hnoH.out (hcondH.out.trans (by rw [hb1, hb2]; rfl)))
              go_wp2
              go_ret
              exact ⟨by rw [hc1.out] <;> rfl, rfl⟩
          · have hc1 := hide (hnoH.out (hcondH.out.trans (by rw [hb1]; rfl)))
            go_wp2
            go_ret
            exact ⟨by rw [hc1.out] <;> rfl, rfl⟩
      · have e32 : ((s.size : Int) != 32) = true := by simp; omega
        have hcond : RW.condK l k = false := by unfold RW.condK; rw [← hsdH.out]; simp [h32]
        have hf := hide (hnoH.out hcond)
        clear hcond h32
        go_wp2
        go_ret
        exact ⟨by rw [hf.out] <;> rfl, rfl⟩
    · obtain rfl : k = n := by omega
      have hfull : RW.asc (RW.bl l) = decide (k ≤ 4000) := by
        unfold RW.asc
        have h1 := ha.out
        rw [List.take_of_length_le (by simp [RW.bl, hnH.out])] at h1
        rw [h1, Bool.true_and]
        simp [RW.bl, hnH.out]
      have hfH := hide hfull
      clear hfull
      go_wp2
      go_ret
      exact ⟨by rw [hfH.out]; simp; omega, rfl⟩
end Go.Proofs.YtcbckcojebanaaaDoor

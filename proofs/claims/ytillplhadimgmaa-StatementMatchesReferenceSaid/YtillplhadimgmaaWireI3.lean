/-
  The walks of royaltyref01.Int, String, PutString and of wire.PutString: what each returns; old memory as it was.
-/
import Derived.Test.YtillplhadimgmaaWireI2
namespace Go.Proofs.Ytillplhadimgmaa
open Go.RowKit Go.Shelf
namespace RW
theorem add_step (k z b : Nat) (hk : k < 9) (hz : z < 2 ^ (7 * k)) :
    IntKind.u64.wrap ((z : Int) + IntKind.u64.wrap ((b : Int) % 128 * 2 ^ (7 * k))) = ((z + (b % 128) * 2 ^ (7 * k) : Nat) : Int) := by
  have h1 := pow_step k z b hz
  have h2 := pow9 (k + 1) (by omega)
  have e3 : ((b : Int) % 128) * 2 ^ (7 * k) = (((b % 128) * 2 ^ (7 * k) : Nat) : Int) := by
    rw [Int.natCast_mul, Int.natCast_pow]; rfl
  rw [e3, IntKind.wrap_u64, IntKind.wrap_u64]; omega
theorem canon (s : ByteArray) (a k z : Nat) (hk : k < 9) (hin : a + k < s.size) (hv : z = val ((s.data.toList.drop a).take (k + 1))) (ht : (s.data.toList.drop a).take (k + 1) = (s.data.toList.drop a).take k ++ [s[a + k]])
    (hall : ∀ c ∈ (s.data.toList.drop a).take k, 128 ≤ c.toNat) (hb : s[a + k].toNat < 128) (S : ByteArray) (hS : S = ⟨(putI (uz z)).toArray⟩) :
    (S.toList == (s.extract a (a + k + 1)).toList) = decide (¬ (s[a + k].toNat = 0 ∧ 0 < k)) := by
  have hl : ((s.data.toList.drop a).take k).length = k := List.length_take_of_le (by simp; omega)
  have h := enc_val 10 ((s.data.toList.drop a).take k) s[a + k] (by omega) hall hb
  rw [← ht, ← hv, hl] at h
  rw [extract_eq s a (a + k + 1) (by omega), show a + k + 1 - a = k + 1 by omega, ByteArray.toList_eq, ByteArray.toList_eq, hS]
  unfold putI
  rw [zz_uz, Bool.eq_iff_iff, beq_iff_eq, decide_eq_true_iff]
  exact h
end RW
set_option maxRecDepth 10000 in
set_option maxHeartbeats 1000000 in
theorem rint_walk (s : ByteArray) (at_ : Nat) (w : World) (hs : s.size ≤ 9223372036854775807) (ha : at_ ≤ s.size) :
    Calls Try.prog 41 #[.string s, .int .i64 at_] w fun e w' =>
      e = .returned (intRes at_ (RW.decI (s.data.toList.drop at_))) ∧ Below w.heap.size w w' := by
  have h0 : ¬ (at_ : Int) < 0 := by omega
  have h1 : ¬ s.size < at_ := by omega
  go_enter Try.func41, Try.ntmps41
  go_wp2
  go_loopw [7, 8] (fun v c wr => ∃ k z : Nat, k ≤ 9 ∧ v = .int .u64 z ∧ c = .int .i64 k ∧ z < 2 ^ (7 * k) ∧ Hid (RW.decG (9 - k) k z (s.data.toList.drop (at_ + k)) = RW.decI (s.data.toList.drop at_)) ∧
      at_ + k ≤ s.size ∧ Hid (z = RW.val ((s.data.toList.drop at_).take k)) ∧ Hid (∀ c ∈ (s.data.toList.drop at_).take k, 128 ≤ c.toNat) ∧ Below w.heap.size w wr) (fun _ c _ => 9 - (intOf c).toNat)
  case atStart => exact ⟨0, 0, by omega, rfl, rfl, by omega, rfl, by omega, rfl, fun c hc => by simp at hc, Below.refl _ _⟩
  case round =>
    obtain ⟨k, z, hk, rfl, rfl, hz, hd, hak, hv, hall, hB⟩ := hrel
    by_cases hk9 : k < 9
    · by_cases hin : at_ + k < s.size
      · have hb := s[at_ + k].toNat_lt
        have hor := RW.add_step k z s[at_ + k].toNat hk9 hz
        have hzb := RW.pow_step k z s[at_ + k].toNat hz
        have hp := RW.pow9 (k + 1) (by omega)
        have hst := RW.decG_cons (8 - k) k z s[at_ + k] (s.data.toList.drop (at_ + k + 1))
        rw [← RW.drop_cons s (at_ + k) hin, show 8 - k + 1 = 9 - k by omega, Hid.out hd] at hst
        have hts := RW.take_snoc s at_ k hin
        have hvs : z + (s[at_ + k].toNat % 128) * 2 ^ (7 * k) = RW.val ((s.data.toList.drop at_).take (k + 1)) := by
          rw [hts, RW.val_snoc, ← Hid.out hv, List.length_take_of_le (by simp; omega)]
        clear hd hv
        generalize z + (s[at_ + k].toNat % 128) * 2 ^ (7 * k) = z' at hor hzb hst hvs
        have hstH := hide hst
        have hvsH := hide hvs
        have htsH := hide hts
        clear hst hp hvs hts
        by_cases hb128 : 128 ≤ s[at_ + k].toNat
        · go_wp2
          go_roundw
          case rel => exact ⟨k + 1, z', by omega, rfl, by go_num, hzb, by rw [show 9 - (k + 1) = 8 - k by omega]; exact (hstH.out.trans (if_pos (by omega))).symm, by omega, hvsH.out, by
              show ∀ c ∈ _, _
              rw [htsH.out]; intro c hc; rcases List.mem_append.1 hc with h | h
              · exact hall.out c h
              · simp at h; rw [h]; exact hb128, hB⟩
          case measure => simp [intOf]; omega
        · have hz63 : z' < 9223372036854775808 := by
            have := RW.pow9 (k + 1) (by omega); omega
          have hub := RW.uz_bd z' hz63
          have g1 : (0 : Int) ≤ (at_ : Int) := by omega
          have g2 : (at_ : Int) ≤ (at_ : Int) + k + 1 := by omega
          have g3 : (at_ : Int) + k + 1 ≤ (s.size : Int) := by omega
          have hpar : ((z' : Int) % 2 == 1) = true ∧ RW.uz z' = -((z' : Int) / 2) - 1 ∨ ((z' : Int) % 2 == 1) = false ∧ RW.uz z' = (z' : Int) / 2 := by
            unfold RW.uz
            rcases Nat.mod_two_eq_zero_or_one z' with h | h
            · right; rw [if_neg (by omega)]; simp; omega
            · left; rw [if_pos h]; simp; omega
          rcases hpar with ⟨ht, hu⟩ | ⟨ht, hu⟩
          all_goals
            have huH := hide hu
            clear hu
            by_cases hbad : RW.uz z' < -4611686018427387903
            · go_wp2_with (go_at_call 39; refine (rputint_out _ (by have := huH.out; omega) _).mono ?_; rintro e w' ⟨rfl, rfl⟩)
              go_ret3
              refine ⟨?_, hB⟩
              rw [hstH.out, if_neg hb128, if_pos (.inr hbad)]; rfl
            · go_wp2_with (go_at_call 39; refine (rputint _ (by have := huH.out; omega) (by have := huH.out; omega) _).mono ?_; rintro e w1 ⟨rfl, hB1⟩; rw [← huH.out]; obtain ⟨S, hS⟩ : ∃ S : ByteArray, S = ⟨(RW.putI (RW.uz z')).toArray⟩ := ⟨_, rfl⟩; rw [← hS]; have hSH := hide hS; clear hS)
              all_goals
                have hcan := RW.canon s at_ k z' hk9 hin hvsH.out htsH.out hall.out (by omega) S hSH.out
              · have hne : (!S.toList == (s.extract at_ (at_ + k + 1)).toList) = true := by assumption
                rw [hcan] at hne
                go_ret3
                refine ⟨?_, hB.trans (hB1.mono hB.size)⟩
                rw [hstH.out, if_neg hb128, if_pos (.inl (Classical.byContradiction fun hP => by rw [decide_eq_true hP] at hne; cases hne))]; rfl
              · have hne : (!S.toList == (s.extract at_ (at_ + k + 1)).toList) = false := by assumption
                rw [hcan] at hne
                go_ret3
                refine ⟨?_, hB.trans (hB1.mono hB.size)⟩
                have hno : ¬ ((s[at_ + k].toNat = 0 ∧ 0 < k) ∨ RW.uz z' < -RW.maxI) := by
                  rintro (h | h)
                  · rw [decide_eq_false (not_not_intro h)] at hne; cases hne
                  · unfold RW.maxI at h; omega
                rw [hstH.out, if_neg hb128, if_neg hno]; exact intRes_some _ _ _
      · go_wp2
        go_ret3
        exact ⟨by rw [← hd.out, List.drop_eq_nil_of_le (by simp; omega), RW.decG_nil]; rfl, hB⟩
    · go_wp2
      go_ret3
      exact ⟨by rw [← hd.out, show 9 - k = 0 by omega, RW.decG_zero]; rfl, hB⟩
end Go.Proofs.Ytillplhadimgmaa

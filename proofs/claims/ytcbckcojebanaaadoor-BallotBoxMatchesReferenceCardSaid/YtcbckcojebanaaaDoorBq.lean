/-
  Package royaltylaw25: pick; BallotQuorums: it returns true; only new memory is written.
-/
import Derived.Laws.ShiftsVarLaws
import Derived.Test.YtcbckcojebanaaaDoorBox8
namespace Go.Proofs.YtcbckcojebanaaaDoor
open Go.RowKit RG
namespace RW
def pickI (c n : Int) : Int := (if c < 0 then -(c + 1) else c) % n
theorem pickI_bd (c n : Int) (h : 1 ≤ n) : 0 ≤ pickI c n ∧ pickI c n < n := ⟨Int.emod_nonneg _ (by omega), Int.emod_lt_of_pos _ (by omega)⟩
end RW
theorem pick_any (c n : Int) (hc : -9223372036854775808 ≤ c) (hc2 : c ≤ 9223372036854775807) (h : 1 ≤ n) (hn : n ≤ 9223372036854775807) (w : World) : Calls Tryd.prog 22 #[.int .i64 c, .int .i64 n] w fun e w' => e = .returned (.int .i64 (RW.pickI c n)) ∧ w = w' := by
  by_cases h0 : c < 0
  · have h1 : 0 ≤ -(c + 1) := by omega
    have e : RW.pickI c n = -(c + 1) % n := by unfold RW.pickI; rw [if_pos h0]
    have eH := hide e
    clear e
    go_enter Tryd.func22, Tryd.ntmps22
    go_wp2
    go_ret
    refine ⟨?_, rfl⟩
    rw [eH.out, ← Int.tmod_eq_emod_of_nonneg h1, Int.neg_tmod]
    rfl
  · have e : RW.pickI c n = c % n := by unfold RW.pickI; rw [if_neg h0]
    have eH := hide e
    clear e
    go_enter Tryd.func22, Tryd.ntmps22
    go_wp2
    go_ret
    exact ⟨by rw [eH.out]; rfl, rfl⟩
/-- one bit of a number -/
theorem run_shr (a : Int) (i : Nat) (hi : i < 64) (W : World) : (binOp .shr 3 (.int .i64 a) (.int .i64 i)).run Tryd.prog W = .ok (.int .i64 (a / 2 ^ i)) W := by
  have h : ¬ (i : Int) < 0 := by omega
  go_simp
theorem run_and1 (v : Int) (W : World) : (binOp .and 3 (.int .i64 v) (.int .i64 1)).run Tryd.prog W = .ok (.int .i64 (bits .and .i64 v 1)) W := by
  go_simp
set_option maxRecDepth 100000 in
set_option maxHeartbeats 4000000 in
theorem bquorums_any (K : Nat → Int) (ks : Array Value) (hks : RW.WsOk ks K) (n a b : Int) (hn : -9223372036854775808 ≤ n) (hn2 : n ≤ 9223372036854775807) (_ : -9223372036854775808 ≤ a) (_ : a ≤ 9223372036854775807) (_ : -9223372036854775808 ≤ b) (_ : b ≤ 9223372036854775807) (w : World) (hK : KLaid w ks) :
    Calls Tryd.prog 7 #[.int .i64 n, .int .i64 a, .int .i64 b] w fun e w' => e = .returned (.bool true) ∧ Below w.heap.size w w' := by
  have hS := hide (bsane_any K ks hks w hK)
  have hP := hide (fun W => pick_any n 7 hn hn2 (by decide) (by decide) W)
  obtain ⟨hp0, hp7⟩ := RW.pickI_bd n 7 (by decide)
  obtain ⟨p, hp⟩ : ∃ p, p = RW.pickI n 7 := ⟨_, rfl⟩
  rw [← hp] at hp0 hp7
  have hpH := hide hp
  clear hp
  go_enter Tryd.func7, Tryd.ntmps7
  go_upto_region 2 with (go_at_call 10; refine hS.out.mono ?_; rintro e w1 ⟨rfl, hB1⟩; have hB1H := hide hB1; clear hB1)
  go_upto_region 3 with (go_at_call 22; refine (hP.out _).mono ?_; rintro e w' ⟨rfl, rfl⟩; rw [← hpH.out])
  obtain ⟨k, hk⟩ : ∃ k : Nat, (k : Int) = 1 + p := ⟨(1 + p).toNat, by omega⟩
  rw [← hk]
  have hk1 : 1 ≤ k := by omega
  have hk7 : k ≤ 7 := by omega
  clear hk hp0 hp7 hpH hP hS
  go_wp2
  go_loopw [9, 10, 11, 12] (fun s1 s2 s3 i wr => ∃ o t c j : Nat, s1 = .int .i64 o ∧ s2 = .int .i64 t ∧ s3 = .int .i64 c ∧ i = .int .i64 j ∧ j ≤ k ∧ o ≤ j ∧ t ≤ j ∧ c ≤ j ∧ o + t ≤ j + c ∧ wr = w1) (fun _ _ _ i _ => k - (intOf i).toNat)
  case atStart => exact ⟨0, 0, 0, 0, rfl, rfl, rfl, rfl, Nat.zero_le _, Nat.le_refl _, Nat.le_refl _, Nat.le_refl _, Nat.le_refl _, rfl⟩
  case round =>
    obtain ⟨o, t, c, j, rfl, rfl, rfl, rfl, hj, ho, ht, hc, hs, rfl⟩ := hrel
    by_cases hlt : j < k
    · have e1 := run_shr a j (by omega)
      have e2 := run_shr b j (by omega)
      obtain ⟨va, hva⟩ : ∃ v, v = a / 2 ^ j := ⟨_, rfl⟩
      obtain ⟨vb, hvb⟩ : ∃ v, v = b / 2 ^ j := ⟨_, rfl⟩
      rw [← hva] at e1
      rw [← hvb] at e2
      clear hva hvb
      have e3 := run_and1 va
      have e4 := run_and1 vb
      obtain ⟨xa, hxa⟩ : ∃ v, v = bits .and .i64 va 1 := ⟨_, rfl⟩
      obtain ⟨xb, hxb⟩ : ∃ v, v = bits .and .i64 vb 1 := ⟨_, rfl⟩
      rw [← hxa] at e3
      rw [← hxb] at e4
      clear hxa hxb
      go_wp2
      go_roundw
      all_goals first
        | exact ⟨⟨o + 1, t + 1, c + 1, j + 1, by go_num, by go_num, by go_num, by go_num, by omega, by omega, by omega, by omega, by omega, trivial⟩, by simp [intOf]; omega⟩
        | exact ⟨o + 1, t + 1, c + 1, j + 1, by go_num, by go_num, by go_num, by go_num, by omega, by omega, by omega, by omega, by omega, trivial⟩
        | exact ⟨⟨o + 1, t, c, j + 1, by go_num, rfl, rfl, by go_num, by omega, by omega, by omega, by omega, by omega, trivial⟩, by simp [intOf]; omega⟩
        | exact ⟨⟨o, t + 1, c, j + 1, rfl, by go_num, rfl, by go_num, by omega, by omega, by omega, by omega, by omega, trivial⟩, by simp [intOf]; omega⟩
        | exact ⟨⟨o, t, c, j + 1, rfl, rfl, rfl, by go_num, by omega, by omega, by omega, by omega, by omega, trivial⟩, by simp [intOf]; omega⟩
        | (simp [intOf]; omega)
    · obtain rfl : j = k := by omega
      have hQ := hide (fun W => quorum_any (j : Int) W)
      have hF := hide (fun W => faults_any (j : Int) W)
      have hq : RW.quorum (j : Int) = (j : Int) - ((j : Int) - 1) / 3 := by rw [RW.quorum, if_pos (by omega)]
      have hf : RW.faults (j : Int) = ((j : Int) - 1) / 3 := by rw [RW.faults, if_pos (by omega)]
      obtain ⟨q, hqe⟩ : ∃ q, q = RW.quorum (j : Int) := ⟨_, rfl⟩
      obtain ⟨f, hfe⟩ : ∃ q, q = RW.faults (j : Int) := ⟨_, rfl⟩
      have hQ' := hQ.out
      have hF' := hF.out
      rw [← hqe] at hQ' hq
      rw [← hfe] at hF' hf
      have hQH := hide hQ'
      have hFH := hide hF'
      have hf0 : 0 ≤ f := by omega
      have hf2 : f ≤ 2 := by omega
      have hqf : q = (j : Int) - f := by omega
      have hjf : 3 * f + 1 ≤ (j : Int) := by omega
      have h1 : f < q - f := by omega
      have h2 : q ≤ (j : Int) := by omega
      have h3 : (o : Int) < q ∨ (t : Int) < q ∨ f < (c : Int) := by omega
      have hq0 : 0 ≤ q ∧ q ≤ 7 := by omega
      obtain ⟨hq0a, hq0b⟩ := hq0
      clear hQ hF hQ' hF' hq hf hqe hfe hqf
      by_cases g1 : (o : Int) < q
      · clear h3
        go_wp2_with (first
          | (go_at_call 20; refine (hQH.out _).mono ?_; rintro e w' ⟨rfl, rfl⟩)
          | (go_at_call 18; refine (hFH.out _).mono ?_; rintro e w' ⟨rfl, rfl⟩))
        go_ret
        exact ⟨rfl, hB1H.out⟩
      · by_cases g2 : (t : Int) < q
        · clear h3
          go_wp2_with (first
            | (go_at_call 20; refine (hQH.out _).mono ?_; rintro e w' ⟨rfl, rfl⟩)
            | (go_at_call 18; refine (hFH.out _).mono ?_; rintro e w' ⟨rfl, rfl⟩))
          go_ret
          exact ⟨rfl, hB1H.out⟩
        · have g3 : f < (c : Int) := by omega
          clear h3
          go_wp2_with (first
            | (go_at_call 20; refine (hQH.out _).mono ?_; rintro e w' ⟨rfl, rfl⟩)
            | (go_at_call 18; refine (hFH.out _).mono ?_; rintro e w' ⟨rfl, rfl⟩))
          go_ret
          exact ⟨rfl, hB1H.out⟩
end Go.Proofs.YtcbckcojebanaaaDoor

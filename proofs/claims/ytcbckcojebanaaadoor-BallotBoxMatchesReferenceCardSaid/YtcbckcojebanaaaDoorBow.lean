/-
  Package royaltylaw25: BallotOneWinner: it returns true; only new memory is written.
-/
import Derived.Deep.MidRow
import Derived.Test.YtcbckcojebanaaaDoorBowP
namespace Go.Proofs.YtcbckcojebanaaaDoor
open Go.RowKit RG
/-- a box that the call made -/
structure BW (w : World) (bx mb : Nat) (N : Int) (L : List (RW.Vk × ByteArray)) (W : World) : Prop where
  below : Below w.heap.size w W
  box : BoxAt W bx mb N L
  le : w.heap.size ≤ mb
theorem BW.next {w W W' : World} {bx mb : Nat} {N : Int} {L : List (RW.Vk × ByteArray)} (h : BW w bx mb N L W) (hB : Below W.heap.size W W') : BW w bx mb N L W' :=
  ⟨h.below.trans (hB.mono h.below.size), h.box.next hB, h.le⟩
theorem BW.add {w W W' : World} {bx mb : Nat} {N : Int} {L L' : List (RW.Vk × ByteArray)} (h : BW w bx mb N L W) (hb : BoxAt W' bx mb N L') (hk : KeptBut mb W W') : BW w bx mb N L' W' :=
  ⟨⟨hk.os.trans h.below.os, hk.tape.trans h.below.tape, hk.output.trans h.below.output, Nat.le_trans h.below.size hk.size, fun k hkl => (hk.block k (Nat.lt_of_lt_of_le hkl h.below.size) (by have := h.le; omega)).trans (h.below.block k hkl)⟩, hb, h.le⟩
/-- a value that is a list of five numbers each -/
def FivesV (W : World) (v : Value) (m : Nat) (X : Nat → Nat → Int) : Prop :=
  ∃ a cap, v = .slice a m cap ∧ (m = 0 ∨ ∃ b o, a = some ⟨b, o, none⟩ ∧ b < W.heap.size ∧ ∀ i, i < m → ∀ j, j < 5 → W.cell? ⟨b, o + i * 5 + j, none⟩ = some (.int .i64 (X i j)))
theorem five_range {W : World} {b o : Nat} {x : Nat → Int} (h : ∀ j, j < 5 → W.cell? ⟨b, o + j, none⟩ = some (.int .i64 (x j))) : W.rangeAt b o (RW.five x).toList := by
  intro j v hv
  have hj : j < 5 := by
    have := (List.getElem?_eq_some_iff.1 hv).1
    simpa [RW.five] using this
  have h' : j = 0 ∨ j = 1 ∨ j = 2 ∨ j = 3 ∨ j = 4 := by omega
  have h5 : (RW.five x).toList[j]? = some (.int .i64 (x j)) := by rcases h' with rfl | rfl | rfl | rfl | rfl <;> rfl
  rw [h5] at hv
  cases hv
  exact h j hj
theorem run_field6 (n : Nat → Int) (d : ByteArray) (v : Value) (W : World) : (Instr.field 24 (.agg (RW.mcells n d v)) 6).run Tryd.prog W = .ok (.string d) W := by
  unfold RW.mcells
  simp [Instr.field, asAgg, run_underlying Tryd.underlying24, part, isAgg, run_underlying Tryd.underlying9]
set_option maxRecDepth 100000 in
set_option maxHeartbeats 8000000 in
theorem bonewinner_any (K : Nat → Int) (ks : Array Value) (hks : RW.WsOk ks K) (n : Int) (v : Value) (m : Nat) (X : Nat → Nat → Int) (hn : -9223372036854775808 ≤ n) (hn2 : n ≤ 9223372036854775807) (hX : ∀ i, i < m → ∀ j, j < 5 → -9223372036854775808 ≤ X i j ∧ X i j ≤ 9223372036854775807)
    (hm : m ≤ 9223372036854775807) (w : World) (hv : FivesV w v m X) (hK : KLaid w ks) :
    Calls Tryd.prog 8 #[.int .i64 n, v] w fun e w' => e = .returned (.bool true) ∧ Below w.heap.size w w' := by
  have hS := hide (bsane_any K ks hks w hK)
  have hP := hide (fun W => pick_any n 7 hn hn2 (by decide) (by decide) W)
  obtain ⟨hp0, hp7⟩ := RW.pickI_bd n 7 (by decide)
  obtain ⟨p, hp⟩ : ∃ p, p = RW.pickI n 7 := ⟨_, rfl⟩
  rw [← hp] at hp0 hp7
  obtain ⟨a, cap, rfl, hva⟩ := hv
  have hpH := hide hp
  have hvaH := hide hva
  have hXH := hide hX
  have hKH := hide hK
  have hksH := hide hks
  clear hp hva hX hK hks
  go_enter Tryd.func8, Tryd.ntmps8
  go_upto_region 2 with (go_at_call 10; refine hS.out.mono ?_; rintro e w1 ⟨rfl, hB1⟩; have hB1H := hide hB1; clear hB1)
  go_upto_region 3 with (go_at_call 22; refine (hP.out _).mono ?_; rintro e w' ⟨rfl, rfl⟩; rw [← hpH.out])
  obtain ⟨N, hN⟩ : ∃ k : Nat, (k : Int) = 1 + p := ⟨(1 + p).toNat, by omega⟩
  rw [← hN]
  have hN1 : 1 ≤ N := by omega
  have hN7 : N ≤ 7 := by omega
  clear hN hp0 hp7 hpH hP hS
  go_upto_region 4 with (go_at_call 28; refine (newbox_yes _ (by omega) _).mono ?_; rintro e w2 ⟨rfl, hb2, hB2⟩; have hbB := hide (And.intro hb2 hB2); clear hb2 hB2)
  obtain ⟨bx, hbx⟩ : ∃ b, b = w1.heap.size + 1 := ⟨_, rfl⟩
  obtain ⟨mb, hmb⟩ : ∃ b, b = w1.heap.size := ⟨_, rfl⟩
  have hb2 := hbB.out.1
  have hB2 := hbB.out.2
  rw [← hbx, ← hmb] at hb2
  rw [← hbx]
  have hW2 : BW w bx mb N [] w2 := ⟨hB1H.out.trans (hB2.mono hB1H.out.size), hb2, by rw [hmb]; exact hB1H.out.size⟩
  have hW2H := hide hW2
  clear hbB hb2 hB2 hbx hmb hW2 hB1H
  go_wp2
  go_loopw [8] (fun i wr => ∃ j : Nat, i = .int .i64 j ∧ j ≤ 60 ∧ j ≤ m ∧ BW w bx mb N (RW.bxL K N X j) wr) (fun i _ => 60 - (intOf i).toNat)
  case atStart => exact ⟨0, rfl, by omega, by omega, hW2H.out⟩
  case round =>
    clear hW2H
    obtain ⟨j, rfl, hj60, hjm, hW⟩ := hrel
    obtain ⟨c, hcc⟩ : ∃ c, c = decide (j < m ∧ j < 60) := ⟨_, rfl⟩
    have hccH := hide hcc
    have hWH := hide hW
    clear hcc hW
    go_upto_region 7 with fail
    go_cut [33] (fun s33 wx => s33 = .bool c ∧ wx = wr)
    case first =>
      by_cases h1 : j < m
      · by_cases h2 : j < 60
        · have h2i : (j : Int) < 60 := by omega
          go_wp2
          all_goals go_meet
          all_goals exact ⟨by rw [hccH.out, decide_eq_true (show j < m ∧ j < 60 by omega)] <;> rfl, rfl⟩
        · obtain rfl : j = 60 := by omega
          go_wp2
          all_goals go_meet
          all_goals exact ⟨by rw [hccH.out, decide_eq_false (show ¬ (60 < m ∧ 60 < 60) by omega)] <;> rfl, rfl⟩
      · go_wp2
        all_goals go_meet
        all_goals exact ⟨by rw [hccH.out, decide_eq_false (show ¬ (j < m ∧ j < 60) by omega)] <;> rfl, rfl⟩
    case rest =>
    obtain ⟨rfl, rfl⟩ := hcut
    have hW := hWH.out
    have hcc := hccH.out
    clear hWH hccH
    cases c with
    | true =>
      obtain ⟨hlm, hl60⟩ := of_decide_eq_true hcc.symm
      obtain ⟨b, o, rfl, hb, hc⟩ := hvaH.out.resolve_left (by omega)
      have hrg : wc.rangeAt b (o + j * 5) (RW.five (X j)).toList := five_range fun i hi => (World.cell?_of_block (a := ⟨b, o + j * 5 + i, none⟩) (hW.below.block _ hb)).trans (hc j hlm i hi)
      have hi5 : (Tryd.prog.info? 49).map (·.size) = some (RW.five (X j)).toList.length := by kernel_rfl
      have hvt := hide (vote5_any (X j) (hXH.out j hlm) wc)
      have hWH := hide hW
      have hcH := hide hc
      clear hW hc
      clear hcc
      go_wp2_with (first
        | (refine wpList_load_mid rfl 49 (.tmp 39) rfl b (o + j * 5) rfl (RW.five (X j)).toList _ hrg Tryd.underlying49 rfl hi5 ?_)
        | (go_at_call 30; refine hvt.out.mono ?_; rintro e w3 ⟨rfl, hB3⟩; have hW3 := hide (hWH.out.next hB3); clear hB3)
        | (go_at_call 31; refine (bxadd_any (RW.vn (X j)) (RW.vd (X j)) (.slice none 0 0) [] _ K (StrsV.nil _) (Nat.zero_le _) (by simp) ks hksH.out (bklaid hKH.out hW3.out.below) bx mb N (RW.bxL K N X j) hW3.out.box).mono ?_; rintro e w4 ⟨rfl, hb4, hk4⟩; have hW4 := hide (hW3.out.add hb4 hk4); clear hb4 hk4))
      go_roundw
      case rel => exact ⟨j + 1, by go_num, by omega, by omega, hW4.out⟩
      case measure => (simp [intOf] <;> omega)
    | false =>
      have hfr := RW.bxL_from K N X j
      obtain ⟨L, hL⟩ : ∃ L, L = RW.bxL K N X j := ⟨_, rfl⟩
      rw [← hL] at hW hfr
      have hWH := hide hW
      have hfrH := hide hfr
      have hq0 : RW.quorum (N : Int) = (N : Int) - ((N : Int) - 1) / 3 := by rw [RW.quorum, if_pos (by omega)]
      obtain ⟨q, hqe⟩ : ∃ q, q = RW.quorum (N : Int) := ⟨_, rfl⟩
      have hQ : ∀ W, Calls Tryd.prog 20 #[.int .i64 N] W fun e w' => e = .returned (.int .i64 q) ∧ W = w' := fun W => by rw [hqe]; exact quorum_any (N : Int) W
      rw [← hqe] at hq0
      have hq1 : (N : Int) < 2 * q := by omega
      have hq2 : q ≤ 7 := by omega
      have hq3 : 1 ≤ q := by omega
      have hQH := hide hQ
      have hq1H := hide hq1
      clear hW hfr hL hXH hvaH hcc hq0 hqe hQ hq1
      go_wp2
      go_loopw [9] (fun kd wr => ∃ z : Nat, kd = .int .i64 ((4 + z : Nat) : Int) ∧ z ≤ 3 ∧ BW w bx mb N L wr) (fun kd _ => 7 - (intOf kd).toNat)
      case atStart => exact ⟨0, rfl, by omega, hWH.out⟩
      case round =>
        clear hWH
        obtain ⟨z, rfl, hz, hW⟩ := hrel
        obtain ⟨kd, hkd⟩ : ∃ kd : Nat, kd = 4 + z := ⟨_, rfl⟩
        rw [← hkd]
        have hk4 : 4 ≤ kd := by omega
        have hk7 : kd ≤ 7 := by omega
        have hkdH := hide hkd
        have hWH := hide hW
        clear hkd hW
        by_cases hkk : kd ≤ 6
        · have hkk' : (kd : Int) ≤ 6 := by omega
          go_wp2
          go_loopw [10] (fun rr wr => ∃ r : Nat, rr = .int .i64 r ∧ r ≤ 3 ∧ BW w bx mb N L wr) (fun rr _ => 3 - (intOf rr).toNat)
          case atStart => exact ⟨0, rfl, by omega, hWH.out⟩
          case round =>
            clear hWH
            obtain ⟨r, rfl, hr, hW⟩ := hrel
            have hWH := hide hW
            clear hW
            by_cases hr3 : r < 3
            · have hmo : ∀ W, BoxAt W bx mb N L → Calls Tryd.prog 33 #[.pointer (some ⟨bx, 0, none⟩), .int .i64 kd, .int .i64 1, .int .i64 r] W fun e w' => (∃ (best : ByteArray) (most : Nat), e = .returned (.tuple #[.string best, .int .i64 most]) ∧ RW.MostSpec (fun d => RW.cnt L kd 1 r d N) best most) ∧ Below W.heap.size W w' := fun W hb => most_of (.pointer (some ⟨bx, 0, none⟩)) L N W kd 1 r (counts_any bx mb N L W hb hN7 kd 1 r)
              have hct : ∀ W, BoxAt W bx mb N L → ∀ d, Calls Tryd.prog 35 #[.pointer (some ⟨bx, 0, none⟩), .int .i64 kd, .int .i64 1, .int .i64 r, .string d] W fun e w' => e = .returned (.int .i64 (RW.cnt L kd 1 r d N)) ∧ Below W.heap.size W w' := fun W hb d => count_of (.pointer (some ⟨bx, 0, none⟩)) L N W kd 1 r d (fun W' h => by subst h; exact counts_any bx mb N L _ hb hN7 kd 1 r)
              have hmoH := hide hmo
              have hcnt := hide hct
              clear hmo hct
              go_upto_region 19 with (go_at_call 33; refine (hmoH.out _ hWH.out.box).mono ?_; rintro e w3 ⟨⟨top, most, rfl, hsp⟩, hB3⟩; have hW3 := hide (hWH.out.next hB3); have hspH := hide hsp; clear hB3 hsp)
              go_wp2
              go_loopw [11, 12, 15] (fun wn sm dd wr => ∃ d wi sm0 : Nat, wn = .int .i64 wi ∧ sm = .int .i64 sm0 ∧ dd = .int .i64 d ∧ d ≤ 4 ∧ sm0 = RW.cnt4 L kd 1 r N d ∧ (wi : Int) * q ≤ sm0 ∧ BW w bx mb N L wr) (fun _ _ dd _ => 4 - (intOf dd).toNat)
              case atStart => exact ⟨0, 0, 0, rfl, rfl, rfl, by omega, rfl, by simp, hW3.out⟩
              case round =>
                clear hW3
                obtain ⟨d, wi, sm, rfl, rfl, rfl, hd4, hsm, hwi, hW⟩ := hrel
                have hWr := hide hW
                have hsl := RW.cnt4_mono L kd 1 r N d hd4
                rw [← hsm] at hsl
                clear hW
                by_cases hd : d < 4
                · obtain ⟨xd, hxd⟩ : ∃ xd : Nat → Int, xd = fun i => if i = 4 then (d : Int) else 0 := ⟨_, rfl⟩
                  have hvt := hide (vote5_any (fun i => if i = 4 then (d : Int) else 0) (fun i hi => by by_cases h : i = 4 <;> simp [h] <;> omega) wr)
                  have hvx := hide (show RW.vd (fun i => if i = 4 then (d : Int) else 0) = RW.dgst (d : Int) by
                    show RW.dgst (RW.pickI (d : Int) 4) = RW.dgst (d : Int)
                    congr 1
                    unfold RW.pickI
                    rw [if_neg (by omega)]
                    omega)
                  obtain ⟨c, hc⟩ : ∃ c, c = RW.cnt L kd 1 r (RW.dgst (d : Int)) N := ⟨_, rfl⟩
                  have hcN : c ≤ 7 := by rw [hc]; exact Nat.le_trans (RW.cnt_le _ _ _ _ _ _) hN7
                  have hs1 := hide (show sm + c = RW.cnt4 L kd 1 r N (d + 1) by rw [hsm, hc]; rfl)
                  have hcase : c < most ∨ (c = most ∧ c = 0) ∨ (c = most ∧ 0 < c ∧ Op.bytesLess (RW.dgst (d : Int)).toList top.toList = false) := by
                    rcases Nat.eq_zero_or_pos c with h0 | h0
                    · rcases Nat.eq_zero_or_pos most with h1 | h1
                      · exact .inr (.inl ⟨by omega, h0⟩)
                      · exact .inl (by omega)
                    · rcases hspH.out.2 (RW.dgst (d : Int)) (by show 0 < RW.cnt L kd 1 r (RW.dgst (d : Int)) N; omega) with h1 | ⟨h1, h2⟩
                      · exact .inl (by show c < most; rw [hc]; exact h1)
                      · exact .inr (.inr ⟨by rw [hc]; exact h1, h0, h2⟩)
                  have hcH := hide hc
                  have hsmH := hide hsm
                  obtain ⟨D, hD⟩ : ∃ D, D = RW.dgst (d : Int) := ⟨_, rfl⟩
                  rw [← hD] at hcase hvx hcH
                  have hf6 := fun W => run_field6 (RW.vn (fun i => if i = 4 then (d : Int) else 0)) D (.slice none 0 0) W
                  clear hc hsm hD hxd
                  have hsmb : sm ≤ 7 := Nat.le_trans hsl hN7
                  have hwb : wi ≤ 7 := by
                    refine Classical.byContradiction fun g => ?_
                    have h8 : (8 : Int) * q ≤ (wi : Int) * q := Int.mul_le_mul_of_nonneg_right (by omega) (by omega)
                    omega
                  by_cases hqc : q ≤ (c : Int)
                  · have hwi2 : ((wi + 1 : Nat) : Int) * q ≤ ((sm + c : Nat) : Int) := by
                      rw [show ((wi + 1 : Nat) : Int) = (wi : Int) + 1 by omega, Int.add_mul]
                      omega
                    have hwi2H := hide hwi2
                    clear hwi hwi2
                    rcases hcase with hc1 | ⟨hc1, hc2⟩ | ⟨hc1, hc2, hc3⟩
                    · have g1 : (c : Int) ≤ (most : Int) := by omega
                      have g2 : ((c : Int) == (most : Int)) = false := by rw [beq_eq_false_iff_ne]; omega
                      clear hc1
                      go_wp2_with (first
                        | (go_at_call 30; refine hvt.out.mono ?_; rintro e w3 ⟨rfl, hB3⟩; have hW3 := hide (hWr.out.next hB3); clear hB3; rw [hvx.out])
                        | (go_at_call 35; refine (hcnt.out _ hW3.out.box _).mono ?_; rintro e w4 ⟨rfl, hB4⟩; have hW4 := hide (hW3.out.next hB4); clear hB4; rw [← hcH.out])
                        | (go_at_call 20; refine (hQH.out _).mono ?_; rintro e w' ⟨rfl, rfl⟩))
                      go_roundw
                      case rel => exact ⟨d + 1, wi + 1, sm + c, by go_num, by go_num, by go_num, by omega, hs1.out, hwi2H.out, hW4.out⟩
                      case measure => (simp [intOf] <;> omega)
                    · exact absurd hqc (by omega)
                    · subst hc1
                      have g3 : (0 : Int) < (c : Int) := by omega
                      go_wp2_with (first
                        | (go_at_call 30; refine hvt.out.mono ?_; rintro e w3 ⟨rfl, hB3⟩; have hW3 := hide (hWr.out.next hB3); clear hB3; rw [hvx.out])
                        | (go_at_call 35; refine (hcnt.out _ hW3.out.box _).mono ?_; rintro e w4 ⟨rfl, hB4⟩; have hW4 := hide (hW3.out.next hB4); clear hB4; rw [← hcH.out])
                        | (go_at_call 20; refine (hQH.out _).mono ?_; rintro e w' ⟨rfl, rfl⟩))
                      go_roundw
                      case rel => exact ⟨d + 1, wi + 1, sm + c, by go_num, by go_num, by go_num, by omega, hs1.out, hwi2H.out, hW4.out⟩
                      case measure => (simp [intOf] <;> omega)
                  · have hwi2 : (wi : Int) * q ≤ ((sm + c : Nat) : Int) := by omega
                    have hqc' : (c : Int) < q := by omega
                    have hwi2H := hide hwi2
                    clear hwi hwi2 hqc
                    rcases hcase with hc1 | ⟨hc1, hc2⟩ | ⟨hc1, hc2, hc3⟩
                    · have g1 : (c : Int) ≤ (most : Int) := by omega
                      have g2 : ((c : Int) == (most : Int)) = false := by rw [beq_eq_false_iff_ne]; omega
                      clear hc1
                      go_wp2_with (first
                        | (go_at_call 30; refine hvt.out.mono ?_; rintro e w3 ⟨rfl, hB3⟩; have hW3 := hide (hWr.out.next hB3); clear hB3; rw [hvx.out])
                        | (go_at_call 35; refine (hcnt.out _ hW3.out.box _).mono ?_; rintro e w4 ⟨rfl, hB4⟩; have hW4 := hide (hW3.out.next hB4); clear hB4; rw [← hcH.out])
                        | (go_at_call 20; refine (hQH.out _).mono ?_; rintro e w' ⟨rfl, rfl⟩))
                      go_roundw
                      case rel => exact ⟨d + 1, wi, sm + c, by go_num, by go_num, by go_num, by omega, hs1.out, hwi2H.out, hW4.out⟩
                      case measure => (simp [intOf] <;> omega)
                    · subst hc1
                      have g3 : (c : Int) ≤ 0 := by omega
                      clear hc2
                      go_wp2_with (first
                        | (go_at_call 30; refine hvt.out.mono ?_; rintro e w3 ⟨rfl, hB3⟩; have hW3 := hide (hWr.out.next hB3); clear hB3; rw [hvx.out])
                        | (go_at_call 35; refine (hcnt.out _ hW3.out.box _).mono ?_; rintro e w4 ⟨rfl, hB4⟩; have hW4 := hide (hW3.out.next hB4); clear hB4; rw [← hcH.out])
                        | (go_at_call 20; refine (hQH.out _).mono ?_; rintro e w' ⟨rfl, rfl⟩))
                      go_roundw
                      case rel => exact ⟨d + 1, wi, sm + c, by go_num, by go_num, by go_num, by omega, hs1.out, hwi2H.out, hW4.out⟩
                      case measure => (simp [intOf] <;> omega)
                    · subst hc1
                      have g3 : (0 : Int) < (c : Int) := by omega
                      go_wp2_with (first
                        | (go_at_call 30; refine hvt.out.mono ?_; rintro e w3 ⟨rfl, hB3⟩; have hW3 := hide (hWr.out.next hB3); clear hB3; rw [hvx.out])
                        | (go_at_call 35; refine (hcnt.out _ hW3.out.box _).mono ?_; rintro e w4 ⟨rfl, hB4⟩; have hW4 := hide (hW3.out.next hB4); clear hB4; rw [← hcH.out])
                        | (go_at_call 20; refine (hQH.out _).mono ?_; rintro e w' ⟨rfl, rfl⟩))
                      go_roundw
                      case rel => exact ⟨d + 1, wi, sm + c, by go_num, by go_num, by go_num, by omega, hs1.out, hwi2H.out, hW4.out⟩
                      case measure => (simp [intOf] <;> omega)
                · have hd4' : d = 4 := by omega
                  subst hd4'
                  have hw1 : (wi : Int) ≤ 1 := by
                    refine Classical.byContradiction fun g => ?_
                    have h8 : (2 : Int) * q ≤ (wi : Int) * q := Int.mul_le_mul_of_nonneg_right (by omega) (by omega)
                    have := hq1H.out
                    omega
                  have hs1 : (sm : Int) ≤ (N : Int) := by omega
                  have hmc : RW.cnt L kd 1 r top N = most := RW.most_count hspH.out
                  have hct : ∀ W, BoxAt W bx mb N L → Calls Tryd.prog 35 #[.pointer (some ⟨bx, 0, none⟩), .int .i64 kd, .int .i64 1, .int .i64 r, .string top] W fun e w' => e = .returned (.int .i64 most) ∧ Below W.heap.size W w' := fun W hb => by
                    have h := hcnt.out W hb top
                    rw [hmc] at h
                    exact h
                  have hah : ∀ W, BoxAt W bx mb N L → Calls Tryd.prog 37 #[.pointer (some ⟨bx, 0, none⟩), .int .i64 1, .int .i64 r] W fun e w' => (∃ y : Nat, e = .returned (.int .i64 y) ∧ (y : Int) ≤ N) ∧ Below W.heap.size W w' := fun W hb => by
                    refine (ahead_any bx mb N L W hb 1 r).mono ?_
                    rintro e w' ⟨⟨S, rfl, hS⟩, hB⟩
                    exact ⟨⟨S.length, rfl, by have := RW.ahead_le hS hfrH.out; omega⟩, hB⟩
                  have hctH := hide hct
                  have hahH := hide hah
                  clear hct hah hmc hwi hsm hsl
                  go_wp2_with (first
                    | (go_at_call 35; refine (hctH.out _ hWr.out.box).mono ?_; rintro e w4 ⟨rfl, hB4⟩; have hW4 := hide (hWr.out.next hB4); clear hB4)
                    | (go_at_call 37; refine (hahH.out _ hW4.out.box).mono ?_; rintro e w5 ⟨⟨y, rfl, hy⟩, hB5⟩; have hW5 := hide (hW4.out.next hB5); clear hB5))
                  go_roundw
                  case rel => exact ⟨r + 1, by go_num, by omega, hW5.out⟩
                  case measure => (simp [intOf] <;> omega)
            · have hr3' : (3 : Int) ≤ r := by omega
              go_wp2
              go_roundw
              case rel => exact ⟨z + 1, by rw [hkdH.out]; go_num, by have := hkdH.out; omega, hWH.out⟩
              case measure => (simp [intOf] <;> omega)
        · have hkk' : (6 : Int) < kd := by omega
          go_wp2
          go_ret
          exact ⟨rfl, hWH.out.below⟩
end Go.Proofs.YtcbckcojebanaaaDoor

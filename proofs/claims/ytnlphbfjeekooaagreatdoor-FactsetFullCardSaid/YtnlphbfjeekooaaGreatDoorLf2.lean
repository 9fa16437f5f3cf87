/-
  Package royaltylaw06: FactsetFull: it returns true; only new memory is written.
-/
import Derived.Test.YtnlphbfjeekooaaGreatDoorLf1
import Derived.Test.YtnlphbfjeekooaaGreatDoorLw3
namespace Go.Proofs.YtnlphbfjeekooaaGreatDoor
open Go.RowKit RG
set_option maxRecDepth 100000 in
set_option maxHeartbeats 8000000 in
theorem full_any (l0 m0 : Int) (hl1 : -9223372036854775808 ≤ l0) (hl2 : l0 ≤ 9223372036854775807) (hm1 : -9223372036854775808 ≤ m0) (hm2 : m0 ≤ 9223372036854775807) (ks : Array Value) (hks : RW.WsOk ks RW.k0F) (w : World) (hK : KLaid w ks) :
    Calls Tryz.prog 4 #[.int .i64 l0, .int .i64 m0] w fun e w' => e = .returned (.bool true) ∧ Below w.heap.size w w' := by
  obtain ⟨n, hn, hn1, hn2⟩ : ∃ n : Nat, 4000 - RW.pickI l0 4 = (n : Int) ∧ 3997 ≤ n ∧ n ≤ 4000 := by
    have := RW.pickI_bd l0 4 (by decide)
    exact ⟨(4000 - RW.pickI l0 4).toNat, by omega, by omega, by omega⟩
  obtain ⟨m, hm, hm3⟩ : ∃ m : Nat, RW.pickI m0 7 = (m : Int) ∧ m ≤ 6 := by
    have := RW.pickI_bd m0 7 (by decide)
    exact ⟨(RW.pickI m0 7).toNat, by omega, by omega⟩
  have hP1 := hide (pick_any l0 4 hl1 hl2 (by decide) (by decide))
  have hP2 := hide (pick_any m0 7 hm1 hm2 (by decide) (by decide))
  rw [hm] at hP2
  have hq : RW.pickI l0 4 = 4000 - (n : Int) := by omega
  rw [hq] at hP1
  have hw1 : wrap64 (4000 - (4000 - (n : Int))) = (n : Int) := by rw [IntWalk.wrap64_in _ ⟨by omega, by omega⟩]; omega
  obtain ⟨B, hB⟩ : ∃ B, B = w.heap.size := ⟨_, rfl⟩
  have hK0 := hide (fun W (hW : Below B w W) => RW.klaid hK (hB ▸ hW : Below w.heap.size w W))
  have hSa := hide (sane_any ks hks w hK)
  have hksH := hide hks
  have hBH := hide hB
  rw [← hB] at hSa ⊢
  clear hK hB hks hm hn hq
  have hAdd := hide (fun (sb mb tb nb : Nat) (C D : RW.Ents) W (h : SnW B sb mb tb nb w C D W) (i : Nat) => sadd_any RW.k0F ks hksH.out sb mb C (RW.playX i) W h.s (hK0.out W h.b))
  have hAdT := hide (fun (sb mb tb nb : Nat) (C D : RW.Ents) W (h : SnW B sb mb tb nb w C D W) (i : Nat) => sadd_any RW.k0F ks hksH.out tb nb D (RW.playX i) W h.t (hK0.out W h.b))
  go_enter Tryz.func4, Tryz.ntmps4
  go_upto_region 2 with (go_at_call 11; refine hSa.out.mono ?_; rintro e w0 ⟨rfl, h⟩; have hB0 := hide h; clear h)
  go_upto_region 3 with (go_at_call 18; refine (hP1.out _).mono ?_; rintro e w0' ⟨rfl, rfl⟩)
  rw [show (4000 : Int) - (4000 - (n : Int)) = (n : Int) by omega]
  go_upto_region 4 with (go_at_call 18; refine (hP2.out _).mono ?_; rintro e w0' ⟨rfl, rfl⟩)
  go_upto_region 5 with (go_at_call 19; refine (snew_any _).mono ?_; rintro e w1 ⟨sb, mb, rfl, g1, g2, g3, g4⟩; have h1 := hide (And.intro g1 (And.intro g2 (And.intro g3 g4))); clear g1 g2 g3 g4)
  go_upto_region 7 with (go_at_call 19; refine (snew_any _).mono ?_; rintro e w2 ⟨tb, nb, rfl, g1, g2, g3, g4⟩; have h2 := hide (And.intro g1 (And.intro g2 (And.intro g3 g4))); clear g1 g2 g3 g4)
  have hS0 := hide (show SnW B sb mb tb nb w [] [] w2 from ⟨h1.out.1.next h2.out.2.1, h2.out.1, hB0.out.trans ((h1.out.2.1.trans (h2.out.2.1.mono h1.out.2.1.size)).mono (by rw [hBH.out]; exact (hBH.out ▸ hB0.out : Below w.heap.size w w0).size)), fun e => by have := h1.out.1.lt.2; have := h2.out.2.2.2; omega, by rw [hBH.out]; exact Nat.le_trans (hBH.out ▸ hB0.out : Below w.heap.size w w0).size h1.out.2.2.2, by rw [hBH.out]; exact Nat.le_trans (Nat.le_trans (hBH.out ▸ hB0.out : Below w.heap.size w w0).size h1.out.2.1.size) h2.out.2.2.2, Nat.le_of_eq hBH.out⟩)
  clear h1 h2 hSa hB0 hP1 hP2 hw1
  have hn2H := hide hn2
  go_wp2
  go_loopw [9, 10, 11] (fun i _ _ wr => ∃ j : Nat, i = .int .i64 j ∧ j ≤ n ∧ Hid (∃ C, SnW B sb mb tb nb w C [] wr ∧ RW.PlC 0 j C)) (fun i _ _ _ => n - (intOf i).toNat)
  case atStart => exact ⟨0, rfl, Nat.zero_le _, [], hS0.out, RW.PlC.nil 0⟩
  case round =>
    obtain ⟨j, rfl, hj, hQ⟩ := hrel
    clear hS0
    by_cases hjn : j < n
    · have hPl := hide (play_any j (by omega))
      obtain ⟨C, hC1, hC2⟩ := hQ.out
      have hC1H := hide hC1
      have hC2H := hide hC2
      clear hC1 hC2
      go_wp2_with (first
        | (go_at_call 21; refine (hPl.out _).mono ?_; rintro e w3 ⟨rfl, h⟩; have h3 := hide (hC1H.out.next h); clear h)
        | (go_at_call 20; refine (hAdd.out sb mb tb nb C [] _ h3.out j).mono ?_; rintro e w4 ⟨rfl, g1, g2⟩; have hA := hide (hC2H.out.add (Nat.zero_le _) (by omega) (by omega)); rw [hA.out.1] at g1 ⊢; have h4 := hide (h3.out.chS g1 g2); clear g1 g2))
      go_roundw
      case rel => exact ⟨j + 1, by go_num, by omega, _, h4.out, hA.out.2⟩
      case measure => simp [intOf]; omega
    · obtain rfl : j = n := by omega
      obtain ⟨C, hC1, hC2⟩ := hQ.out
      have hC1H := hide hC1
      have hC2H := hide hC2
      clear hC1 hC2 hQ
      go_wp2
      go_loopw [12] (fun i wr => ∃ q : Nat, i = .int .i64 q ∧ q ≤ m ∧ Hid (∃ D, SnW B sb mb tb nb w C D wr ∧ RW.PlC j (j + q) D)) (fun i _ => m - (intOf i).toNat)
      case atStart => exact ⟨0, rfl, Nat.zero_le _, [], hC1H.out, RW.PlC.nil j⟩
      case round =>
        obtain ⟨q, rfl, hq, hQ⟩ := hrel
        clear hC1H
        by_cases hqm : q < m
        · have hPl := hide (play_any (j + q) (by omega))
          have hw2 : wrap64 ((j : Int) + (q : Int)) = ((j + q : Nat) : Int) := by rw [IntWalk.wrap64_in _ ⟨by omega, by omega⟩]; omega
          obtain ⟨D, hD1, hD2⟩ := hQ.out
          have hD1H := hide hD1
          have hD2H := hide hD2
          clear hD1 hD2
          go_wp2_with (first
            | (go_at_call 21; refine (hPl.out _).mono ?_; rintro e w5 ⟨rfl, h⟩; have h5 := hide (hD1H.out.next h); clear h)
            | (go_at_call 20; refine (hAdT.out sb mb tb nb C D _ h5.out (j + q)).mono ?_; rintro e w6 ⟨rfl, g1, g2⟩; have hA := hide (hD2H.out.add (Nat.le_add_right _ _) (by omega) (by omega)); rw [hA.out.1] at g1 ⊢; have h6 := hide (h5.out.chT g1 g2); clear g1 g2))
          go_roundw
          case rel => exact ⟨q + 1, by go_num, by omega, _, h6.out, hA.out.2⟩
          case measure => simp [intOf]; omega
        · obtain rfl : q = m := by omega
          obtain ⟨D, hD1, hD2⟩ := hQ.out
          have hD1H := hide hD1
          have hD2H := hide hD2
          clear hD1 hD2 hQ
          have hRt := hide (fun W (h : SnW B sb mb tb nb w C D W) => sroot_any RW.k0F ks hksH.out sb mb C (by rw [hC2H.out.len]; omega) hC2H.out.sizes W h.s (hK0.out W h.b))
          obtain ⟨R, hR⟩ : ∃ R, R = RW.rootB RW.k0F (C.map (·.1)) := ⟨_, rfl⟩
          rw [← hR] at hRt
          have hUn := hide (fun W (h : SnW B sb mb tb nb w C D W) => sunion_any sb mb tb nb C D W h.s h.t h.ne (by rw [hC2H.out.len]; omega) (by rw [hD2H.out.len]; omega))
          have hUP := hide (hC2H.out.uni hD2H.out (by omega))
          clear hR
          by_cases hfit : j + q ≤ 4000
          · have hi : (j : Int) + (q : Int) ≤ 4000 := by omega
            have hr := hide (show RW.uniR D C = (0, RW.uniE D C) by unfold RW.uniR; rw [hUP.out.len, if_neg (by omega)])
            go_upto_region 21 with (first
              | (go_at_call 16; refine (hRt.out _ hD1H.out).mono ?_; rintro e w7 ⟨rfl, h⟩; have h7 := hide (hD1H.out.next h); clear h)
              | (go_at_call 22; refine (hUn.out _ h7.out).mono ?_; rintro e w8 ⟨rfl, g1, g2⟩; rw [hr.out] at g1 ⊢; have h8 := hide (h7.out.chS g1 g2); clear g1 g2))
            have hE0 := hide (show RW.PlC 0 (j + q) (RW.uniE D C) from hUP.out)
            clear hr hUn hRt h7 hUP hD2H hD1H
            go_wp2
            go_loopw [15, 16, 17, 18] (fun i _ _ _ wr => ∃ r : Nat, i = .int .i64 r ∧ r ≤ q ∧ Hid (SnW B sb mb tb nb w (RW.uniE D C) D wr)) (fun i _ _ _ _ => q - (intOf i).toNat)
            case atStart => exact ⟨0, rfl, Nat.zero_le _, h8.out⟩
            case round =>
              obtain ⟨r, rfl, hr, hQ⟩ := hrel
              clear h8
              by_cases hrq : r < q
              · have hPl := hide (play_any (j + r) (by omega))
                have hw2 : wrap64 ((j : Int) + (r : Int)) = ((j + r : Nat) : Int) := by rw [IntWalk.wrap64_in _ ⟨by omega, by omega⟩]; omega
                have hA := hide (hE0.out.known (i := j + r) (by omega) (Nat.zero_le _) (by omega))
                have hi2 : (j : Int) + (r : Int) < 4000 := by omega
                go_wp2_with (first
                  | (go_at_call 21; refine (hPl.out _).mono ?_; rintro e w9 ⟨rfl, h⟩; have h9 := hide (hQ.out.next h); clear h)
                  | (go_at_call 20; refine (hAdd.out sb mb tb nb (RW.uniE D C) D _ h9.out (j + r)).mono ?_; rintro e w10 ⟨rfl, g1, g2⟩; rw [hA.out] at g1 ⊢; have h10 := hide (h9.out.chS g1 g2); clear g1 g2))
                go_roundw
                case rel => exact ⟨r + 1, by go_num, by omega, h10.out⟩
                case measure => simp [intOf]; omega
              · obtain rfl : r = q := by omega
                have hP0 := hide (fun W => (show Calls Tryz.prog 21 #[.int .i64 0] W fun e w' => e = .returned (RW.fv (RW.playX 0)) ∧ Below W.heap.size W w' from play_any 0 (by decide) W))
                have hR0 := hide (hE0.out.known (i := 0) (by decide) (Nat.le_refl _) (by omega))
                have hL0 := hide (fun W (h : SnW B sb mb tb nb w (RW.uniE D C) D W) => slen_any sb mb (RW.uniE D C) W h.s)
                rw [hE0.out.len, Nat.sub_zero] at hL0
                have hmin : min ((j : Int) + (r : Int)) 4000 = ((j + r : Nat) : Int) := by omega
                go_wp2_with (first
                  | (go_at_call 21; refine (hP0.out _).mono ?_; rintro e w9 ⟨rfl, h⟩; have h9 := hide (hQ.out.next h); clear h)
                  | (go_at_call 20; refine (hAdd.out sb mb tb nb (RW.uniE D C) D _ h9.out 0).mono ?_; rintro e w10 ⟨rfl, g1, g2⟩; rw [hR0.out] at g1 ⊢; have h10 := hide (h9.out.chS g1 g2); clear g1 g2)
                  | (go_at_call 23; refine (hL0.out _ h10.out).mono ?_; rintro e w11 ⟨rfl, rfl⟩))
                go_ret
                exact ⟨by simp, h10.out.b⟩
          · have hi : ¬ (j : Int) + (q : Int) ≤ 4000 := by omega
            have hr := hide (show RW.uniR D C = (60, C) by unfold RW.uniR; rw [hUP.out.len, if_pos (by omega)])
            have hL1 := hide (fun W (h : SnW B sb mb tb nb w C D W) => slen_any sb mb C W h.s)
            rw [hC2H.out.len, Nat.sub_zero] at hL1
            have tok1 : True := trivial
            go_upto_region 21 with (first
              | (go_at_call 16; have _t := tok1; refine (hRt.out _ hD1H.out).mono ?_; rintro e w7 ⟨rfl, h⟩; have h7 := hide (hD1H.out.next h); clear h; clear tok1 _t)
              | (go_at_call 22; refine (hUn.out _ h7.out).mono ?_; rintro e w8 ⟨rfl, g1, g2⟩; rw [hr.out] at g1 ⊢; have h8 := hide (h7.out.chS g1 g2); clear g1 g2)
              | (go_at_call 16; refine (hRt.out _ h8.out).mono ?_; rintro e w7' ⟨rfl, h⟩; have h8' := hide (h8.out.next h); clear h)
              | (go_at_call 23; refine (hL1.out _ h8'.out).mono ?_; rintro e w11 ⟨rfl, rfl⟩))
            clear hr hUn hRt h7 h8 hUP hD2H hD1H hL1
            go_wp2
            go_loopw [15, 16, 17, 18] (fun i _ _ _ wr => ∃ r : Nat, i = .int .i64 r ∧ r ≤ q ∧ Hid (∃ E, SnW B sb mb tb nb w E D wr ∧ RW.PlC 0 (min (j + r) 4000) E)) (fun i _ _ _ _ => q - (intOf i).toNat)
            case atStart => exact ⟨0, rfl, Nat.zero_le _, C, h8'.out, by rw [Nat.add_zero, Nat.min_eq_left hn2H.out]; exact hC2H.out⟩
            case round =>
              obtain ⟨r, rfl, hr, hQ⟩ := hrel
              clear h8'
              obtain ⟨E, hE1, hE2⟩ := hQ.out
              have hE1 := hide hE1
              have hE2 := hide hE2
              by_cases hrq : r < q
              · have hPl := hide (play_any (j + r) (by omega))
                have hw2 : wrap64 ((j : Int) + (r : Int)) = ((j + r : Nat) : Int) := by rw [IntWalk.wrap64_in _ ⟨by omega, by omega⟩]; omega
                by_cases hful : j + r < 4000
                · have hi2 : (j : Int) + (r : Int) < 4000 := by omega
                  have hA := hide (show RW.addR RW.k0F E (RW.playX (j + r)) = (true, 0, RW.insE (RW.pid (j + r)) (RW.fv (RW.playX (j + r))) E) ∧ RW.PlC 0 (min (j + (r + 1)) 4000) (RW.insE (RW.pid (j + r)) (RW.fv (RW.playX (j + r))) E) from by
                    have h := hE2.out
                    rw [Nat.min_eq_left (by omega)] at h
                    have h2 := h.add (Nat.zero_le _) (by omega) (by omega)
                    rw [Nat.min_eq_left (by omega)]
                    exact h2)
                  go_wp2_with (first
                    | (go_at_call 21; refine (hPl.out _).mono ?_; rintro e w9 ⟨rfl, h⟩; have h9 := hide (hE1.out.next h); clear h)
                    | (go_at_call 20; refine (hAdd.out sb mb tb nb E D _ h9.out (j + r)).mono ?_; rintro e w10 ⟨rfl, g1, g2⟩; rw [hA.out.1] at g1 ⊢; have h10 := hide (h9.out.chS g1 g2); clear g1 g2))
                  go_roundw
                  case rel => exact ⟨r + 1, by go_num, by omega, _, h10.out, hA.out.2⟩
                  case measure => simp [intOf]; omega
                · have hi2 : ¬ (j : Int) + (r : Int) < 4000 := by omega
                  have hA := hide (show RW.addR RW.k0F E (RW.playX (j + r)) = (false, 60, E) ∧ RW.PlC 0 (min (j + (r + 1)) 4000) E from by
                    have h := hE2.out
                    rw [Nat.min_eq_right (by omega)] at h ⊢
                    exact ⟨h.full (by omega) (by omega) (by omega), h⟩)
                  go_wp2_with (first
                    | (go_at_call 21; refine (hPl.out _).mono ?_; rintro e w9 ⟨rfl, h⟩; have h9 := hide (hE1.out.next h); clear h)
                    | (go_at_call 20; refine (hAdd.out sb mb tb nb E D _ h9.out (j + r)).mono ?_; rintro e w10 ⟨rfl, g1, g2⟩; rw [hA.out.1] at g1 ⊢; have h10 := hide (h9.out.chS g1 g2); clear g1 g2))
                  go_roundw
                  case rel => exact ⟨r + 1, by go_num, by omega, _, h10.out, hA.out.2⟩
                  case measure => simp [intOf]; omega
              · obtain rfl : r = q := by omega
                have hP0 := hide (fun W => (show Calls Tryz.prog 21 #[.int .i64 0] W fun e w' => e = .returned (RW.fv (RW.playX 0)) ∧ Below W.heap.size W w' from play_any 0 (by decide) W))
                have hE3 := hide (show RW.PlC 0 4000 E by have h := hE2.out; rwa [Nat.min_eq_right (by omega)] at h)
                have hR0 := hide (hE3.out.known (i := 0) (by decide) (Nat.le_refl _) (by omega))
                have hL0 := hide (fun W (h : SnW B sb mb tb nb w E D W) => slen_any sb mb E W h.s)
                rw [hE3.out.len, Nat.sub_zero, show ((4000 : Nat) : Int) = 4000 from rfl] at hL0
                have hmin : min ((j : Int) + (r : Int)) 4000 = 4000 := by omega
                go_wp2_with (first
                  | (go_at_call 21; refine (hP0.out _).mono ?_; rintro e w9 ⟨rfl, h⟩; have h9 := hide (hE1.out.next h); clear h)
                  | (go_at_call 20; refine (hAdd.out sb mb tb nb E D _ h9.out 0).mono ?_; rintro e w10 ⟨rfl, g1, g2⟩; rw [hR0.out] at g1 ⊢; have h10 := hide (h9.out.chS g1 g2); clear g1 g2)
                  | (go_at_call 23; refine (hL0.out _ h10.out).mono ?_; rintro e w11 ⟨rfl, rfl⟩))
                go_ret
                exact ⟨by simp, h10.out.b⟩
end Go.Proofs.YtnlphbfjeekooaaGreatDoor

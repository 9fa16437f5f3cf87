/-
  Package royaltylaw22: cut, DiskNewMatches, DiskNil: they return true; only new memory is written.
-/
import Derived.Test.YtehenjgggaedeaaDk9
namespace Go.Proofs.Ytehenjgggaedeaa
open Go.RowKit
theorem cutS_any (s : ByteArray) (n : Nat) (hs : s.size ≤ 9223372036854775807) (hn : n ≤ 1000000) (w : World) : Calls Try.prog 22 #[.string s, .int .i64 (n : Int)] w fun e w' => e = .returned (.string (s.extract 0 (min s.size n))) ∧ w = w' := by
  obtain ⟨k, hk⟩ : ∃ k, k = min s.size n := ⟨_, rfl⟩
  have h1 : min (s.size : Int) (n : Int) = (k : Int) := by omega
  have h2 : k ≤ s.size := by omega
  rw [← hk]
  clear hk
  go_enter Try.func22, Try.ntmps22
  go_wp2
  go_ret
  exact ⟨rfl, rfl⟩
set_option maxRecDepth 10000 in
set_option maxHeartbeats 2000000 in
theorem newmatches_any (n a : Int) (ha : -9223372036854775808 ≤ a) (ha2 : a ≤ 9223372036854775807) (w : World) : Calls Try.prog 3 #[.int .i64 n, .int .i64 a] w fun e w' => e = .returned (.bool true) ∧ Below w.heap.size w w' := by
  have hS := hide (sane_any w)
  obtain ⟨B, hB⟩ : ∃ B, B = w.heap.size := ⟨_, rfl⟩
  have hBH := hide hB
  rw [← hB] at hS ⊢
  clear hB
  by_cases hr : 1 ≤ n ∧ n ≤ 4194304
  · obtain ⟨k, rfl⟩ : ∃ k : Nat, n = k := ⟨n.toNat, by omega⟩
    obtain ⟨h1, h2⟩ := hr
    have hk1 : 1 ≤ k := by omega
    have hk2 : k ≤ 4194304 := by omega
    have hN := hide (fun W => new_any k hk1 hk2 W)
    have hP := hide (fun W => pick_any a (k : Int) ha ha2 h1 (by omega) W)
    have hpb := RW.pickI_bd a (k : Int) h1
    obtain ⟨p, hp⟩ : ∃ p, p = RW.pickI a (k : Int) := ⟨_, rfl⟩
    rw [← hp] at hP hpb
    have hrd : (RW.dk0 k).read k p 1 = (⟨#[0]⟩, 0) := by
      rw [RW.Dk.read, if_neg (show ¬ (RW.dk0 k).off = true from Bool.false_ne_true), if_pos ((RW.insB_iff k p 1).2 ⟨hpb.1, by decide, by omega, by omega⟩)]
      have h3 : ((List.replicate k (0 : UInt8)).drop p.toNat).take (1 : Int).toNat = [0] := by
        rw [List.drop_replicate, show (1 : Int).toNat = 1 from rfl, List.take_replicate, Nat.min_eq_left (by omega)]
        rfl
      show (RW.strOf (((List.replicate k (0 : UInt8)).drop p.toNat).take (1 : Int).toNat), (0 : Int)) = _
      rw [h3]
      rfl
    have h1i : ¬ (k : Int) < 1 := by omega
    have h2i : ¬ 4194304 < (k : Int) := by omega
    have hRd := hide (fun B b db vb W (h : DiskAt W B b k db vb (.slice none 0 0) (RW.dk0 k)) => read_any B b k db vb (.slice none 0 0) (RW.dk0 k) p 1 W h)
    rw [hrd] at hRd
    clear ha ha2 hp hpb hrd
    go_enter Try.func3, Try.ntmps3
    go_upto_region 3 with (first
      | (go_at_call 12; refine hS.out.mono ?_; rintro e w1 ⟨rfl, hB1⟩; have hB1H := hide hB1; clear hB1)
      | (go_at_call 13; refine (hN.out _).mono ?_; rintro e w2 ⟨b, rfl, ⟨db, vb, hd⟩, hB2⟩; have hdH := hide hd; have hB2H := hide (hB1H.out.trans (hB2.mono (by rw [hBH.out]; exact hBH.out ▸ hB1H.out.size))); clear hd hB2))
    have hsz := hide (size_any w2 hdH.out)
    have hpd := hide (pending_any w2 hdH.out)
    rw [show (RW.dk0 k).pend.length = 0 from rfl] at hpd
    go_wp2_with (first
      | (go_at_call 15; refine (hP.out _).mono ?_; rintro e w' ⟨rfl, rfl⟩)
      | (go_at_call 14; refine (hRd.out _ _ _ _ _ hdH.out).mono ?_; rintro e w' ⟨rfl, rfl⟩)
      | (go_at_call 16; refine hsz.out.mono ?_; rintro e w' ⟨rfl, rfl⟩)
      | (go_at_call 17; refine hpd.out.mono ?_; rintro e w' ⟨rfl, rfl⟩))
    go_ret
    exact ⟨rfl, hB2H.out⟩
  · have hN := hide (fun W => new_no n hr W)
    by_cases h1 : n < 1
    · clear hr ha ha2
      go_enter Try.func3, Try.ntmps3
      go_wp2_with (first
        | (go_at_call 12; refine hS.out.mono ?_; rintro e w1 ⟨rfl, hB1⟩; have hB1H := hide hB1; clear hB1)
        | (go_at_call 13; refine (hN.out _).mono ?_; rintro e w' ⟨rfl, rfl⟩))
      go_ret
      exact ⟨rfl, hB1H.out⟩
    · have h2 : 4194304 < n := by omega
      clear hr ha ha2
      go_enter Try.func3, Try.ntmps3
      go_wp2_with (first
        | (go_at_call 12; refine hS.out.mono ?_; rintro e w1 ⟨rfl, hB1⟩; have hB1H := hide hB1; clear hB1)
        | (go_at_call 13; refine (hN.out _).mono ?_; rintro e w' ⟨rfl, rfl⟩))
      go_ret
      exact ⟨rfl, hB1H.out⟩
set_option maxRecDepth 10000 in
set_option maxHeartbeats 2000000 in
theorem disknil_any (o n : Int) (s : ByteArray) (hs : s.size ≤ 9223372036854775807) (kv : Value) (keep : List Int) (hkl : keep.length ≤ 9223372036854775807) (w : World) (hk : RowV 1 (fun z => [Value.int .i64 z]) w kv keep) :
    Calls Try.prog 5 #[.int .i64 o, .int .i64 n, .string s, kv] w fun e w' => e = .returned (.bool true) ∧ Below w.heap.size w w' := by
  have hS := hide (sane_any w)
  obtain ⟨B, hB⟩ : ∃ B, B = w.heap.size := ⟨_, rfl⟩
  have hBH := hide hB
  rw [← hB] at hS ⊢
  clear hB
  have hR := hide (fun W => read_nil o n W)
  have hCt := hide (fun W => cutS_any s 100 hs (by decide) W)
  have hW := hide (fun t W => write_nil o t W)
  have hSy := hide (fun W => sync_nil W)
  have hCu := hide (fun W => cut_nil n W)
  have hCr := hide (fun v W => crash_nil v n W)
  have hPe := hide (fun W => pending_nil W)
  have hSi := hide (fun W => size_nil W)
  obtain ⟨a, c, rfl, hc, ha⟩ := hk
  obtain ⟨m, hm⟩ : ∃ m, m = keep.length := ⟨_, rfl⟩
  rw [← hm] at hkl hc ⊢
  obtain ⟨q, hq⟩ : ∃ q, q = min m 100 := ⟨_, rfl⟩
  have hq1 : min (m : Int) 100 = (q : Int) := by omega
  have hq2 : q ≤ m := by omega
  cases a with
  | none =>
    have hm0 : m = 0 := by
      rcases ha with rfl | ⟨b, o, hab, _⟩
      · exact hm
      · cases hab
    subst hm0
    obtain rfl : q = 0 := by omega
    clear ha hm hs hq
    go_enter Try.func5, Try.ntmps5
    go_wp2_with (first
      | (go_at_call 12; refine hS.out.mono ?_; rintro e w1 ⟨rfl, hB1⟩; have hB1H := hide hB1; clear hB1)
      | (go_at_call 14; refine (hR.out _).mono ?_; rintro e w' ⟨rfl, rfl⟩)
      | (go_at_call 22; refine (hCt.out _).mono ?_; rintro e w' ⟨rfl, rfl⟩)
      | (go_at_call 21; refine (hW.out _ _).mono ?_; rintro e w' ⟨rfl, rfl⟩)
      | (go_at_call 23; refine (hSy.out _).mono ?_; rintro e w' ⟨rfl, rfl⟩)
      | (go_at_call 24; refine (hCu.out _).mono ?_; rintro e w' ⟨rfl, rfl⟩)
      | (go_at_call 25; refine (hCr.out _ _).mono ?_; rintro e w2 ⟨rfl, hB2⟩; have hB2H := hide (hB1H.out.trans (hB2.mono (by rw [hBH.out]; exact hBH.out ▸ hB1H.out.size))); clear hB2)
      | (go_at_call 17; refine (hPe.out _).mono ?_; rintro e w' ⟨rfl, rfl⟩)
      | (go_at_call 16; refine (hSi.out _).mono ?_; rintro e w' ⟨rfl, rfl⟩))
    go_ret
    exact ⟨rfl, hB2H.out⟩
  | some ad =>
    clear ha hm hs hq
    go_enter Try.func5, Try.ntmps5
    go_wp2_with (first
      | (go_at_call 12; refine hS.out.mono ?_; rintro e w1 ⟨rfl, hB1⟩; have hB1H := hide hB1; clear hB1)
      | (go_at_call 14; refine (hR.out _).mono ?_; rintro e w' ⟨rfl, rfl⟩)
      | (go_at_call 22; refine (hCt.out _).mono ?_; rintro e w' ⟨rfl, rfl⟩)
      | (go_at_call 21; refine (hW.out _ _).mono ?_; rintro e w' ⟨rfl, rfl⟩)
      | (go_at_call 23; refine (hSy.out _).mono ?_; rintro e w' ⟨rfl, rfl⟩)
      | (go_at_call 24; refine (hCu.out _).mono ?_; rintro e w' ⟨rfl, rfl⟩)
      | (go_at_call 25; refine (hCr.out _ _).mono ?_; rintro e w2 ⟨rfl, hB2⟩; have hB2H := hide (hB1H.out.trans (hB2.mono (by rw [hBH.out]; exact hBH.out ▸ hB1H.out.size))); clear hB2)
      | (go_at_call 17; refine (hPe.out _).mono ?_; rintro e w' ⟨rfl, rfl⟩)
      | (go_at_call 16; refine (hSi.out _).mono ?_; rintro e w' ⟨rfl, rfl⟩))
    go_ret
    exact ⟨rfl, hB2H.out⟩
end Go.Proofs.Ytehenjgggaedeaa

/-
  Package royaltylaw22: pick, cut, sane: what they return; only new memory is written.
-/
import Derived.Test.YtehenjgggaedeaaDk8
namespace Go.Proofs.Ytehenjgggaedeaa
open Go.RowKit
namespace RW
def pickI (c n : Int) : Int := (if c < 0 then -(c + 1) else c) % n
theorem pickI_bd (c n : Int) (h : 1 ≤ n) : 0 ≤ pickI c n ∧ pickI c n < n := ⟨Int.emod_nonneg _ (by omega), Int.emod_lt_of_pos _ (by omega)⟩
def sAB : ByteArray := ⟨#[97, 98]⟩
def sXY : ByteArray := ⟨#[120, 121]⟩
def sQ : ByteArray := ⟨#[113]⟩
def s2 : Dk := ⟨false, 0, [0, 0, 0, 0], [97, 98, 0, 0], [(0, ⟨#[97, 98]⟩)]⟩
def s3 : Dk := ⟨false, 0, [0, 0, 0, 0], [97, 120, 121, 0], [(0, ⟨#[97, 98]⟩), (1, ⟨#[120, 121]⟩)]⟩
def s4 : Dk := ⟨false, 0, [97, 120, 0, 0], [97, 120, 0, 0], []⟩
def s5 : Dk := ⟨false, 1, [97, 120, 0, 0], [97, 120, 0, 0], []⟩
def s6 : Dk := ⟨true, 0, [97, 120, 0, 0], [97, 120, 0, 113], [(3, ⟨#[113]⟩)]⟩
theorem st1 : (dk0 4).write 4 0 ⟨#[97, 98]⟩ = (0, s2) := by kernel_rfl
theorem st2 : s2.write 4 1 ⟨#[120, 121]⟩ = (0, s3) := by kernel_rfl
theorem st3 : s3.write 4 3 ⟨#[122, 122]⟩ = (220, s3) := by kernel_rfl
theorem st4 : s3.read 4 0 4 = (⟨#[97, 120, 121, 0]⟩, 0) := by kernel_rfl
theorem sv5 : survive 2 [1, 0] = [0, 1] := by
  have h : ([1, 0] : List Int).mergeSort (fun x y => decide (x ≤ y)) = [0, 1] := by
    simp [List.mergeSort, List.MergeSort.Internal.splitInTwo]
  unfold survive
  rw [h]
  rfl
theorem st5 : s3.crash [1, 0] 1 = s4 := by
  rw [Dk.crash, show s3.pend.length = 2 from rfl, sv5]
  kernel_rfl
theorem st6 : s4.read 4 0 4 = (⟨#[97, 120, 0, 0]⟩, 0) := by kernel_rfl
theorem st7 : s4.cut 1 = (0, s5) := by kernel_rfl
theorem st8 : s5.write 4 3 ⟨#[113]⟩ = (0, s6) := by kernel_rfl
theorem st9 : s6.sync = (221, s6) := by kernel_rfl
theorem ok3 : s3.ok 4 := by
  intro x hx
  simp [s3] at hx
  rcases hx with rfl | rfl <;> decide
end RW
theorem pick_any (c n : Int) (hc : -9223372036854775808 ≤ c) (hc2 : c ≤ 9223372036854775807) (h : 1 ≤ n) (hn : n ≤ 9223372036854775807) (w : World) : Calls Try.prog 15 #[.int .i64 c, .int .i64 n] w fun e w' => e = .returned (.int .i64 (RW.pickI c n)) ∧ w = w' := by
  by_cases h0 : c < 0
  · have h1 : 0 ≤ -(c + 1) := by omega
    have e : RW.pickI c n = -(c + 1) % n := by unfold RW.pickI; rw [if_pos h0]
    have eH := hide e
    clear e
    go_enter Try.func15, Try.ntmps15
    go_wp2
    go_ret
    refine ⟨?_, rfl⟩
    rw [eH.out, ← Int.tmod_eq_emod_of_nonneg h1, Int.neg_tmod]
    rfl
  · have e : RW.pickI c n = c % n := by unfold RW.pickI; rw [if_neg h0]
    have eH := hide e
    clear e
    go_enter Try.func15, Try.ntmps15
    go_wp2
    go_ret
    exact ⟨by rw [eH.out]; rfl, rfl⟩
set_option maxRecDepth 10000 in
set_option maxHeartbeats 2000000 in
theorem sane_any (w : World) : Calls Try.prog 12 #[] w fun e w' => e = .returned (.bool true) ∧ Below w.heap.size w w' := by
  have hN := hide (new_any 4 (by decide) (by decide) w)
  have hZ := hide (fun W => new_no 0 (by decide) W)
  obtain ⟨B, hB⟩ : ∃ B, B = w.heap.size := ⟨_, rfl⟩
  rw [← hB] at hN ⊢
  clear hB
  go_enter Try.func12, Try.ntmps12
  go_upto_region 2 with (go_at_call 13; refine hN.out.mono ?_; rintro e w1 ⟨b, rfl, ⟨db, vb, hd1⟩, hB1⟩; have hd1H := hide hd1; have hB1H := hide hB1; clear hd1 hB1)
  go_upto_region 5 with (go_at_call 13; refine (hZ.out _).mono ?_; rintro e w' ⟨rfl, rfl⟩)
  have h2 := hide (fun W (h : DiskAt W B b 4 db vb (.slice none 0 0) (RW.dk0 4)) => write_any B b 4 db vb (.slice none 0 0) (RW.dk0 4) 0 ⟨#[97, 98]⟩ W h (by decide) (by decide))
  rw [RW.st1] at h2
  go_upto_region 6 with (go_at_call 21; refine (h2.out _ hd1H.out).mono ?_; rintro e w2 ⟨rfl, pv2, hd2, ht2, hB2⟩; have hd2H := hide hd2; have hB2H := hide (hB1H.out.trans hB2); clear hd2 ht2 hB2)
  clear h2 hd1H hB1H
  have h3 := hide (fun W (h : DiskAt W B b 4 db vb (pv2) RW.s2) => write_any B b 4 db vb (pv2) RW.s2 1 ⟨#[120, 121]⟩ W h (by decide) (by decide))
  rw [RW.st2] at h3
  go_upto_region 7 with (go_at_call 21; refine (h3.out _ hd2H.out).mono ?_; rintro e w3 ⟨rfl, pv3, hd3, ht3, hB3⟩; have hd3H := hide hd3; have hB3H := hide (hB2H.out.trans hB3); clear hd3 ht3 hB3)
  clear h3 hd2H hB2H
  have h4 := hide (fun W (h : DiskAt W B b 4 db vb (pv3) RW.s3) => write_any B b 4 db vb (pv3) RW.s3 3 ⟨#[122, 122]⟩ W h (by decide) (by decide))
  rw [RW.st3] at h4
  go_upto_region 8 with (go_at_call 21; refine (h4.out _ hd3H.out).mono ?_; rintro e w4 ⟨rfl, pv4, hd4, ht4, hB4⟩; have hd4H := hide hd4; have hB4H := hide (hB3H.out.trans hB4); clear hd4 ht4 hB4)
  clear h4 hd3H hB3H
  have r9 := hide (read_any B b 4 db vb (pv4) RW.s3 0 4 w4 hd4H.out)
  rw [RW.st4] at r9
  go_upto_region 9 with (go_at_call 14; refine r9.out.mono ?_; rintro e w' ⟨rfl, rfl⟩)
  clear r9
  have p9 := hide (pending_any w4 hd4H.out)
  rw [show RW.s3.pend.length = 2 from rfl] at p9
  go_upto_region 10 with (go_at_call 17; refine p9.out.mono ?_; rintro e w' ⟨rfl, rfl⟩)
  clear p9
  have hA5 := hide ((Below.refl w4.heap.size w4).alloc (Nat.le_refl _) (.cells #[.int .i64 1, .int .i64 0] 3))
  have hI5 := hide (show IntsB (w4.alloc (.cells #[.int .i64 1, .int .i64 0] 3)).heap.size (w4.alloc (.cells #[.int .i64 1, .int .i64 0] 3)) (.slice (some ⟨w4.heap.size, 0, none⟩) 2 2) [1, 0] from ⟨_, 2, rfl, .inr ⟨_, 0, rfl, by simp, fun j x hx => by
    rw [cellAt (newAt rfl), Nat.zero_add]
    rcases j with _ | _ | j
    · cases hx; rfl
    · cases hx; rfl
    · simp at hx⟩⟩)
  have hc5 := hide (crash_any B b 4 db vb (pv4) RW.s3 _ [1, 0] 1 _ (hd4H.out.next hA5.out) RW.ok3 (by decide) hI5.out)
  rw [RW.st5] at hc5
  have hs5 := hide (Nat.le_trans hd4H.out.hb (Nat.le_of_lt hd4H.out.lt.1))
  go_upto_region 11 with (go_at_call 25; refine hc5.out.mono ?_; rintro e w5 ⟨rfl, pv5, hd5, ht5, hB5⟩; have hd5H := hide hd5; have hB5H := hide ((hB4H.out.alloc hs5.out _).trans hB5); clear hd5 ht5 hB5)
  clear hc5 hI5 hA5 hd4H hB4H hs5
  have r12 := hide (read_any B b 4 db vb (pv5) RW.s4 0 4 w5 hd5H.out)
  rw [RW.st6] at r12
  go_upto_region 12 with (go_at_call 14; refine r12.out.mono ?_; rintro e w' ⟨rfl, rfl⟩)
  clear r12
  have hc6 := hide (cut_any B b 4 db vb pv5 RW.s4 1 (by decide) w5 hd5H.out)
  rw [RW.st7] at hc6
  go_upto_region 13 with (go_at_call 24; refine hc6.out.mono ?_; rintro e w6 ⟨rfl, hd6, ht6, hB6⟩; have hd6H := hide hd6; have hB6H := hide (hB5H.out.trans hB6); clear hd6 ht6 hB6)
  clear hc6 hd5H hB5H
  have h7 := hide (fun W (h : DiskAt W B b 4 db vb (pv5) RW.s5) => write_any B b 4 db vb (pv5) RW.s5 3 ⟨#[113]⟩ W h (by decide) (by decide))
  rw [RW.st8] at h7
  go_upto_region 14 with (go_at_call 21; refine (h7.out _ hd6H.out).mono ?_; rintro e w7 ⟨rfl, pv7, hd7, ht7, hB7⟩; have hd7H := hide hd7; have hB7H := hide (hB6H.out.trans hB7); clear hd7 ht7 hB7)
  clear h7 hd6H hB6H
  have hc8 := hide (sync_any B b 4 db vb (pv7) RW.s6 w7 hd7H.out)
  rw [RW.st9] at hc8
  go_upto_region 15 with (go_at_call 23; refine hc8.out.mono ?_; rintro e w8 ⟨rfl, pv8, hd8, ht8, hB8⟩; have hd8H := hide hd8; have hB8H := hide (hB7H.out.trans hB8); clear hd8 ht8 hB8)
  clear hc8 hd7H hB7H
  have hz := hide (size_any w8 hd8H.out)
  go_wp2_with (go_at_call 16; refine hz.out.mono ?_; rintro e w' ⟨rfl, rfl⟩)
  go_ret
  exact ⟨rfl, hB8H.out⟩
end Go.Proofs.Ytehenjgggaedeaa

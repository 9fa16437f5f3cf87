/-
  Package royaltyref02: Sum: the digest; only new memory is written.
-/
import Derived.Test.YtllbphanfahkkaaGreatDoorRs3
import Derived.Test.YtllbphanfahkkaaGreatDoorMA
namespace Go.Proofs.YtllbphanfahkkaaGreatDoor
open Go.RowKit RG
namespace RW
def digTo (H : Nat → Int) (n : Nat) : List UInt8 := (List.range n).map (dbyte H)
theorem digTo_len (H : Nat → Int) (n : Nat) : (digTo H n).length = n := by simp [digTo]
theorem digTo_four (H : Nat → Int) (k : Nat) : bytesV (digTo H (4 * k)) ++ [.int .u8 (H k / 2 ^ 24 % 256), .int .u8 (H k / 2 ^ 16 % 256), .int .u8 (H k / 2 ^ 8 % 256), .int .u8 (H k % 256)] = bytesV (digTo H (4 * (k + 1))) := by
  have e : digTo H (4 * (k + 1)) = digTo H (4 * k) ++ [dbyte H (4 * k), dbyte H (4 * k + 1), dbyte H (4 * k + 2), dbyte H (4 * k + 3)] := by
    unfold digTo
    rw [show 4 * (k + 1) = 4 * k + 1 + 1 + 1 + 1 by omega, List.range_succ, List.range_succ, List.range_succ, List.range_succ]
    simp
  rw [e]
  unfold bytesV
  rw [List.map_append]
  congr 1
  unfold dbyte
  simp only [List.map_cons, List.map_nil, toNat_ofNat_byte]
  rw [show 4 * k / 4 = k by omega, show (4 * k + 1) / 4 = k by omega, show (4 * k + 2) / 4 = k by omega, show (4 * k + 3) / 4 = k by omega,
    show 4 * k % 4 = 0 by omega, show (4 * k + 1) % 4 = 1 by omega, show (4 * k + 2) % 4 = 2 by omega, show (4 * k + 3) % 4 = 3 by omega]
  simp
end RW
theorem owns_cap {w : World} {B e : Nat} {a : Option Addr} {n cap : Nat} {xs : List Value} (h : w.ownsRow B e 1 (.slice a n cap) n xs) : n ≤ cap ∧ cap ≤ maxLen := by
  rcases h.2 with ⟨h1, h2⟩ | ⟨g, cap', cur, h2, h3, h4, h5⟩
  · injection h1 with _ h1 h3; subst h1 h3; exact ⟨Nat.le_refl _, by unfold maxLen; omega⟩
  · injection h2 with _ _ h2; subst h2
    refine ⟨?_, ?_⟩ <;> first | (obtain ⟨h5, h6, h7⟩ := h5; omega) | omega
theorem app_four {B : Nat} {w wr : World} {v : Value} {n : Nat} {xs : List Value} (hown : wr.ownsRow B 5 1 v n xs) (hB : Below B w wr) (hs : B ≤ wr.heap.size) (hn : n ≤ 1000) (x y z t : Int) :
    ∃ v' w3, (Builtin.append_ #[39, 39] 39 #[v, .slice (some ⟨wr.heap.size, 0, none⟩) 4 4]).run Tryz.prog (wr.drew.alloc (.cells #[.int .u8 x, .int .u8 y, .int .u8 z, .int .u8 t] 5)) = .ok v' w3 ∧
      w3.ownsRow B 5 1 v' (n + 4) (xs ++ [.int .u8 x, .int .u8 y, .int .u8 z, .int .u8 t]) ∧ Below B w w3 ∧ B ≤ w3.heap.size := by
  obtain ⟨i0, hi, hz0, hz1, hz2⟩ := info_parts info_u8
  have hownD : wr.drew.ownsRow B 5 1 v n xs := hown
  obtain ⟨v', w3, hr, h2, h3, _⟩ := run_append_own (P := Tryz.prog) (wr.drew.alloc (.cells #[.int .u8 x, .int .u8 y, .int .u8 z, .int .u8 t] 5)) B 39 39 5 i0 (.int .u8 0) 1 1 Tryz.underlying39 hi hz0 hz1 hz2 rfl (by decide) v n xs (hownD.alloc _)
    ⟨wr.heap.size, 0, none⟩ 4 4 [.int .u8 x, .int .u8 y, .int .u8 z, .int .u8 t] rfl (by
      intro j u hj
      have e : (⟨wr.heap.size, 0, none⟩ : Addr).add j = ⟨wr.heap.size, j, none⟩ := by cases j <;> simp [Addr.add]
      rw [e, World.cell?_alloc_at _ _ _ _ (show wr.heap.size = wr.drew.heap.size from rfl)]
      simpa using hj) (by intro u hu; simp at hu; rcases hu with rfl | rfl | rfl | rfl <;> rfl) (by unfold maxLen; omega) (by omega) (by simp; exact Nat.le_succ_of_le hs)
  obtain ⟨h4, h5⟩ := below_app (o := .cells #[.int .u8 x, .int .u8 y, .int .u8 z, .int .u8 t] 5) hB.drew (by exact hs) hownD h3
  exact ⟨v', w3, hr, h2, h4, h5⟩
set_option maxRecDepth 100000 in
set_option maxHeartbeats 16000000 in
theorem rsum_any (s : ByteArray) (hs : s.size ≤ 1099511627776) (w : World) :
    Calls Tryz.prog 29 #[.string s] w fun e w' => e = .returned (.string ⟨(RW.sha RW.k0F s.data.toList).toArray⟩) ∧ Below w.heap.size w w' := by
  obtain ⟨B, hB⟩ : ∃ b, b = w.heap.size := ⟨_, rfl⟩
  have hBH := hide hB
  have hwB := hide (show B ≤ w.heap.size by omega)
  obtain ⟨PL, hPL⟩ : ∃ l, l = RW.padL s.data.toList := ⟨_, rfl⟩
  have hPLH := hide hPL
  obtain ⟨m, hm⟩ : ∃ m, m = PL.length / 64 := ⟨_, rfl⟩
  have hlen : PL.length = 64 * m := by rw [hm, hPL]; exact RW.padL_dvd _
  have hm2 : m ≤ 17179869190 := by
    have h1 : PL.length ≤ s.size + 73 := by rw [hPL, RW.padL_len]; have : RW.padZ s.data.toList.length < 64 := by unfold RW.padZ; omega
                                            rw [Array.length_toList]; show s.size + 1 + _ + 8 ≤ _; rw [Array.length_toList] at this; omega
    omega
  have hmH := hide hm
  have hlenH := hide hlen
  have hX : ∀ W, Calls Tryz.prog 63 #[.string s] W (ExtPost s W) := fun W => extended_any s hs W
  have hXH := hide hX
  rw [← hB]
  clear hB hPL hm hlen hX
  go_enter Tryz.func29, Tryz.ntmps29
  go_wp2_with (go_at_call 63; refine (hXH.out _).mono ?_; rintro e w2 ⟨v, rfl, hown, hB2⟩)
  have h8 : ∀ i, i < 8 → w2.cell? ⟨B, i, none⟩ = some (.int .u32 (RW.sh0 i)) := by
    intro i hi
    rw [World.cell?_of_block (a := ⟨B, i, none⟩) (hB2.block _ (by simp; rw [← hBH.out]; exact Nat.lt_succ_self _)), World.cell?_alloc_at _ _ _ _ hBH.out]
    match i, hi with
    | 0, _ => rfl
    | 1, _ => rfl
    | 2, _ => rfl
    | 3, _ => rfl
    | 4, _ => rfl
    | 5, _ => rfl
    | 6, _ => rfl
    | 7, _ => rfl
  have hB3 : Below B w w2 := ((Below.refl B w).alloc hwB.out _).trans (hB2.mono (by simp; have := hwB.out; omega))
  rw [← hPLH.out, hlenH.out] at hown
  have hm1 : 1 ≤ m := by
    have h1 := hlenH.out
    rw [hPLH.out, RW.padL_len] at h1
    omega
  obtain ⟨gb, cap, rfl⟩ := owns_pos hown (by omega)
  have hcap := owns_cap hown
  have hgb := (hown.lt gb rfl).2
  have cP : ∀ i, i < 64 * m → w2.cell? ⟨gb, i, none⟩ = some (.int .u8 ((PL.getD i 0).toNat : Int)) := fun i hi => by
    refine owns_cell hown i _ ?_
    have hl : i < PL.length := by rw [hlenH.out]; exact hi
    simp [RW.bytesV, List.getD, List.getElem?_eq_getElem hl]
  have cPH := hide cP
  have h8H := hide h8
  have hBl : B < w2.heap.size := World.block_lt_of_cell? _ _ (h8 0 (by decide))
  obtain ⟨n2, hn2⟩ : ∃ n, n = w2.heap.size := ⟨_, rfl⟩
  rw [← hn2] at hgb hBl
  have hn2H := hide hn2
  clear cP h8 hown hB2 hn2
  go_wp2
  go_loopw [3, 5] (fun h i wr => ∃ c g ch : Nat, c ≤ m ∧ i = .int .i64 ((64 * c : Nat) : Int) ∧ h = .slice (some ⟨g, 0, none⟩) 8 ch ∧ Hid (∀ i, i < 8 → wr.cell? ⟨g, i, none⟩ = some (.int .u32 (RW.shRun RW.k0F PL c i))) ∧ Below n2 w2 wr ∧ n2 ≤ wr.heap.size) (fun _ i _ => 64 * m - (intOf i).toNat)
  case atStart => exact ⟨0, B, 8, by omega, rfl, by rw [hBH.out], h8H, Below.refl _ _, by rw [hn2H.out]; exact Nat.le_refl _⟩
  case round =>
    obtain ⟨c, g, ch, hc, rfl, rfl, hcs, hBw, hBs⟩ := hrel
    by_cases hlt : c < m
    · have q1 : (64 : Int) * c < 64 * m := by omega
      have q2 : (0 : Int) ≤ 64 * c := by omega
      have q3 : (64 : Int) * c ≤ 64 * c + 64 := by omega
      have q4 : (64 : Int) * c + 64 ≤ (cap : Int) := by omega
      have hgl : g < wr.heap.size := World.block_lt_of_cell? _ _ (hcs.out 0 (by decide))
      have cb : ∀ i, i < 64 → wr.cell? ⟨gb, 64 * c + i, none⟩ = some (.int .u8 (RW.blkf PL c i)) := fun i hi => (World.cell?_of_block (a := ⟨gb, 64 * c + i, none⟩) (hBw.block _ hgb)).trans (cPH.out (64 * c + i) (by omega))
      have hBk := fun cb' => block_any (RW.shRun RW.k0F PL c) (RW.blkf PL c) g ch gb (64 * c) cb' (fun i _ => RW.blkf_range PL c i) wr hgl (by omega) hcs.out cb
      have hBkH := hide hBk
      clear hBk cb hgl
      go_wp2_with (go_at_call 64; refine (hBkH.out _).mono ?_; rintro e w5 ⟨v5, rfl, hown5, hB5⟩)
      obtain ⟨g5, c5, rfl⟩ := owns_pos hown5 (by omega)
      have hc5 : Hid (∀ i, i < 8 → w5.cell? ⟨g5, i, none⟩ = some (.int .u32 (RW.shRun RW.k0F PL (c + 1) i))) := fun i hi => owns_cell hown5 i _ (RW.wordsU_get _ _ _ hi)
      have hB6 : Below n2 w2 w5 := hBw.trans (hB5.mono hBs)
      have hs6 : n2 ≤ w5.heap.size := by have := hB5.size; omega
      clear hown5 hB5 hBw hBs hcs hBkH q2 q3 q4
      go_wp2
      go_roundw
      case rel => exact ⟨c + 1, g5, c5, by omega, by go_num, rfl, hc5, hB6, hs6⟩
      case measure => simp [intOf]; omega
    · obtain rfl : c = m := by omega
      obtain ⟨H, hH⟩ : ∃ H, H = RW.shRun RW.k0F PL c := ⟨_, rfl⟩
      have hfin : RW.dig H = RW.sha RW.k0F s.data.toList := by
        unfold RW.sha
        rw [hH, ← hPLH.out, ← hmH.out]
      rw [← hH] at hcs
      have hB7 : Below B w wr := hB3.trans (hBw.mono (by omega))
      have hBn : B ≤ wr.heap.size := by omega
      have hgl : g < wr.heap.size := World.block_lt_of_cell? _ _ (hcs.out 0 (by decide))
      have hfinH := hide hfin
      clear hH hfin hBw hBs cPH h8H hcap hgb hBl hn2H hB3 hm1 hlenH hm2 hmH hPLH hlt hc
      obtain ⟨n7, hn7⟩ : ∃ n, n = wr.heap.size := ⟨_, rfl⟩
      rw [← hn7] at hgl hBn
      obtain ⟨w7, hw7⟩ : ∃ x, x = wr := ⟨_, rfl⟩
      have hn7H := hide hn7
      have hw7H := hide hw7
      clear hn7 hw7
      go_wp2
      go_loopw [6, 7] (fun v i wr => ∃ k : Nat, k ≤ 8 ∧ i = .int .i64 k ∧ wr.ownsRow n7 5 1 v (4 * k) (RW.bytesV (RW.digTo H (4 * k))) ∧ Below n7 w7 wr ∧ n7 ≤ wr.heap.size) (fun _ i _ => 8 - (intOf i).toNat)
      case atStart => exact ⟨0, by omega, rfl, World.ownsRow_nil _ _ _ _, by rw [hw7H.out]; exact Below.refl _ _, by rw [hn7H.out]; exact Nat.le_refl _⟩
      case round =>
        rw [← hw7H.out] at hcs hB7 hn7H
        obtain ⟨k, hk, rfl, hown, hBw, hBs⟩ := hrel
        by_cases hlt : k < 8
        · have ch : wr.drew.cell? ⟨g, k, none⟩ = some (.int .u32 (H k)) := (World.cell?_of_block (a := ⟨g, k, none⟩) (hBw.block _ hgl)).trans (hcs.out k hlt)
          have chH := hide ch
          clear ch
          go_upto_region 11 with fail
          obtain ⟨nb, hnb⟩ : ∃ n, n = wr.heap.size := ⟨_, rfl⟩
          obtain ⟨v', w3, happ, hown', hB3, hs3⟩ := app_four hown hBw hBs (by omega) (H k / 2 ^ 24 % 256) (H k / 2 ^ 16 % 256) (H k / 2 ^ 8 % 256) (H k % 256)
          rw [RW.digTo_four] at hown'
          rw [← hnb] at happ
          refine wp_region_staged (st3 wr.drew (wr.drew.alloc (.cells #[.int .u8 (((H (k)) / 2 ^ 24) % 256), .int .u8 (((H (k)) / 2 ^ 16) % 256), .int .u8 (((H (k)) / 2 ^ 8) % 256), .int .u8 ((H (k)) % 256)] 5)) w3) [24, 25] (by kernel_rfl) (by kernel_rfl) (by rfl) rfl ?_
          refine st_val (_) (by rfl) (by rfl) (fun w => rfl) ?_
          simp only [Act.put, List.setIfInBounds_toArray, List.set_cons_zero, List.set_cons_succ]
          refine st_val (.slice (some ⟨g, 0, none⟩) 8 ch) (by rfl) (by rfl) (fun w => rfl) ?_
          simp only [Act.put, List.setIfInBounds_toArray, List.set_cons_zero, List.set_cons_succ]
          refine st_val (.int .i64 ((k : Nat) : Int)) (by rfl) (by rfl) (fun w => rfl) ?_
          simp only [Act.put, List.setIfInBounds_toArray, List.set_cons_zero, List.set_cons_succ]
          refine st_val (.pointer (some ⟨g, k, none⟩)) (by rfl) (by rfl) (fun w => OP.idx_w (i := k) rfl rfl rfl (by omega)) ?_
          simp only [Act.put, List.setIfInBounds_toArray, List.set_cons_zero, List.set_cons_succ]
          refine st_op_in 0 0 (.int .u32 (H (k))) (by rfl) (by rfl) (.inl rfl) (.inr (by decide +kernel)) (fun j w' _ hj hS => by rw [OP.load_u rfl rfl (by have hS := st3_z hS hj; subst hS; exact chH.out)]; exact ⟨rfl, hS⟩) ?_
          simp only [Act.put, List.setIfInBounds_toArray, List.set_cons_zero, List.set_cons_succ]
          refine st_val (.int .u32 ((H (k)) / 2 ^ 24)) (by rfl) (by rfl) (fun w => OP.shr_u (n := 24) rfl rfl rfl (by decide)) ?_
          simp only [Act.put, List.setIfInBounds_toArray, List.set_cons_zero, List.set_cons_succ]
          refine st_val (.int .u8 (((H (k)) / 2 ^ 24) % 256)) (by rfl) (by rfl) (fun w => OP.conv_down rfl rfl) ?_
          simp only [Act.put, List.setIfInBounds_toArray, List.set_cons_zero, List.set_cons_succ]
          refine st_val (.slice (some ⟨g, 0, none⟩) 8 ch) (by rfl) (by rfl) (fun w => rfl) ?_
          simp only [Act.put, List.setIfInBounds_toArray, List.set_cons_zero, List.set_cons_succ]
          refine st_val (.int .i64 ((k : Nat) : Int)) (by rfl) (by rfl) (fun w => rfl) ?_
          simp only [Act.put, List.setIfInBounds_toArray, List.set_cons_zero, List.set_cons_succ]
          refine st_val (.pointer (some ⟨g, k, none⟩)) (by rfl) (by rfl) (fun w => OP.idx_w (i := k) rfl rfl rfl (by omega)) ?_
          simp only [Act.put, List.setIfInBounds_toArray, List.set_cons_zero, List.set_cons_succ]
          refine st_op_in 0 0 (.int .u32 (H (k))) (by rfl) (by rfl) (.inl rfl) (.inr (by decide +kernel)) (fun j w' _ hj hS => by rw [OP.load_u rfl rfl (by have hS := st3_z hS hj; subst hS; exact chH.out)]; exact ⟨rfl, hS⟩) ?_
          simp only [Act.put, List.setIfInBounds_toArray, List.set_cons_zero, List.set_cons_succ]
          refine st_val (.int .u32 ((H (k)) / 2 ^ 16)) (by rfl) (by rfl) (fun w => OP.shr_u (n := 16) rfl rfl rfl (by decide)) ?_
          simp only [Act.put, List.setIfInBounds_toArray, List.set_cons_zero, List.set_cons_succ]
          refine st_val (.int .u8 (((H (k)) / 2 ^ 16) % 256)) (by rfl) (by rfl) (fun w => OP.conv_down rfl rfl) ?_
          simp only [Act.put, List.setIfInBounds_toArray, List.set_cons_zero, List.set_cons_succ]
          refine st_val (.slice (some ⟨g, 0, none⟩) 8 ch) (by rfl) (by rfl) (fun w => rfl) ?_
          simp only [Act.put, List.setIfInBounds_toArray, List.set_cons_zero, List.set_cons_succ]
          refine st_val (.int .i64 ((k : Nat) : Int)) (by rfl) (by rfl) (fun w => rfl) ?_
          simp only [Act.put, List.setIfInBounds_toArray, List.set_cons_zero, List.set_cons_succ]
          refine st_val (.pointer (some ⟨g, k, none⟩)) (by rfl) (by rfl) (fun w => OP.idx_w (i := k) rfl rfl rfl (by omega)) ?_
          simp only [Act.put, List.setIfInBounds_toArray, List.set_cons_zero, List.set_cons_succ]
          refine st_op_in 0 0 (.int .u32 (H (k))) (by rfl) (by rfl) (.inl rfl) (.inr (by decide +kernel)) (fun j w' _ hj hS => by rw [OP.load_u rfl rfl (by have hS := st3_z hS hj; subst hS; exact chH.out)]; exact ⟨rfl, hS⟩) ?_
          simp only [Act.put, List.setIfInBounds_toArray, List.set_cons_zero, List.set_cons_succ]
          refine st_val (.int .u32 ((H (k)) / 2 ^ 8)) (by rfl) (by rfl) (fun w => OP.shr_u (n := 8) rfl rfl rfl (by decide)) ?_
          simp only [Act.put, List.setIfInBounds_toArray, List.set_cons_zero, List.set_cons_succ]
          refine st_val (.int .u8 (((H (k)) / 2 ^ 8) % 256)) (by rfl) (by rfl) (fun w => OP.conv_down rfl rfl) ?_
          simp only [Act.put, List.setIfInBounds_toArray, List.set_cons_zero, List.set_cons_succ]
          refine st_val (.slice (some ⟨g, 0, none⟩) 8 ch) (by rfl) (by rfl) (fun w => rfl) ?_
          simp only [Act.put, List.setIfInBounds_toArray, List.set_cons_zero, List.set_cons_succ]
          refine st_val (.int .i64 ((k : Nat) : Int)) (by rfl) (by rfl) (fun w => rfl) ?_
          simp only [Act.put, List.setIfInBounds_toArray, List.set_cons_zero, List.set_cons_succ]
          refine st_val (.pointer (some ⟨g, k, none⟩)) (by rfl) (by rfl) (fun w => OP.idx_w (i := k) rfl rfl rfl (by omega)) ?_
          simp only [Act.put, List.setIfInBounds_toArray, List.set_cons_zero, List.set_cons_succ]
          refine st_op_in 0 0 (.int .u32 (H (k))) (by rfl) (by rfl) (.inl rfl) (.inr (by decide +kernel)) (fun j w' _ hj hS => by rw [OP.load_u rfl rfl (by have hS := st3_z hS hj; subst hS; exact chH.out)]; exact ⟨rfl, hS⟩) ?_
          simp only [Act.put, List.setIfInBounds_toArray, List.set_cons_zero, List.set_cons_succ]
          refine st_val (.int .u8 ((H (k)) % 256)) (by rfl) (by rfl) (fun w => OP.conv_down rfl rfl) ?_
          simp only [Act.put, List.setIfInBounds_toArray, List.set_cons_zero, List.set_cons_succ]
          refine st_step 0 (.slice (some ⟨nb, 0, none⟩) 4 4) (by rfl) (by rfl) (by decide +kernel) (fun w' hS => by have hS := st3_0 hS; subst hS; rw [OP.build_b4 rfl rfl rfl rfl rfl]; exact ⟨by rw [hnb]; rfl, rfl⟩) ?_
          simp only [Act.put, List.setIfInBounds_toArray, List.set_cons_zero, List.set_cons_succ]
          refine st_step 1 (v') (by rfl) (by rfl) (by decide +kernel) (fun w' hS => by have hS := st3_1 hS; subst hS; rw [OP.app rfl rfl rfl happ]; exact ⟨rfl, rfl⟩) ?_
          simp only [Act.put, List.setIfInBounds_toArray, List.set_cons_zero, List.set_cons_succ]
          refine st_val (v') (by rfl) (by rfl) (fun w => rfl) ?_
          simp only [Act.put, List.setIfInBounds_toArray, List.set_cons_zero, List.set_cons_succ]
          refine st_nil ?_
          intro W9 hW9
          replace hW9 : W9 = w3 := hW9
          subst hW9
          clear happ chH hown hBw hBs hnb
          go_wp2
          go_roundw
          case rel => exact ⟨k + 1, by omega, by go_num, by rw [show 4 * (k + 1) = 4 * k + 4 by omega] at hown' ⊢; exact hown', hB3, hs3⟩
          case measure => simp [intOf]; omega
        · obtain rfl : k = 8 := by omega
          obtain ⟨g9, c9, rfl⟩ := owns_pos hown (by omega)
          have hr := RW.own_string (P := Tryz.prog) hown 39 9 Tryz.underlying39 Tryz.underlying5 Tryz.underlying9
          rw [show RW.digTo H (4 * 8) = RW.dig H from rfl, hfinH.out] at hr
          have hfin : Below B w wr := hB7.trans (hBw.mono hBn)
          clear hown
          go_wp2
          go_ret
          exact ⟨rfl, hfin⟩
end Go.Proofs.YtllbphanfahkkaaGreatDoor

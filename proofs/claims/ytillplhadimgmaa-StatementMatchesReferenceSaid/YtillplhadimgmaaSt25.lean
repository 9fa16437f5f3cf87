/-
  Package royaltylaw19: sane: it returns true; only new memory is written.
-/
import Derived.Test.YtillplhadimgmaaSt22
import Derived.Test.YtillplhadimgmaaSt5
namespace Go.Proofs.Ytillplhadimgmaa
open Go.RowKit RG
namespace RW
/-- a row of a holder, a period and a payment -/
def mkR (h p z : Int) : Rw := fun i => if i = 0 then h else if i = 1 then p else if i = 10 then z else 0
def S1 : List Rw := [mkR 4 0 70000]
def S2 : List Rw := [mkR 4 0 50000, mkR 4 2 10000, mkR 3 0 7]
def S3 : List Rw := [mkR 4 0 5]
def S4 : List Rw := [mkR 4 0 5, mkR 3 0 7]
def sLn : List Ln := [(0, 70000, 50000), (2, 0, 10000)]
theorem s_of : lns S1 S2 4 = sLn := by decide +kernel
theorem s_all : stAll S3 S4 0 = [(3, 0, [(0, 0, 7)])] := by decide +kernel
theorem s_tot : tot sLn = -10000 := by decide +kernel
theorem s_val : valB (4, 1, [(0, 0, 1)]) = true := by decide +kernel
theorem s_nov : valB (4, 0, []) = false := by decide +kernel
theorem s_enc : encS (4, 1, [(0, 0, 1)]) = [8, 2, 2, 0, 0, 2] := by decide +kernel
theorem s_dec : decT [8, 2, 2, 0, 0, 2] = .st (4, 1, [(0, 0, 1)]) := by
  have := decT_enc s_val []
  rwa [List.append_nil, s_enc, if_neg (by simp)] at this
theorem near_S (l : List Rw) (h : l = S1 ∨ l = S2 ∨ l = S3 ∨ l = S4) : NearR l ∧ l.length ≤ 50 := by
  have h0 : ∀ (a b c : Int), -2000000000000000 ≤ c → c ≤ 2000000000000000 → (-2000000000000000 ≤ mkR a b c 10 ∧ mkR a b c 10 ≤ 2000000000000000) := fun a b c h1 h2 => ⟨h1, h2⟩
  rcases h with rfl | rfl | rfl | rfl
  · exact ⟨fun r hr => by simp [S1] at hr; subst hr; exact h0 _ _ _ (by decide) (by decide), by decide⟩
  · exact ⟨fun r hr => by simp [S2] at hr; rcases hr with rfl | rfl | rfl <;> exact h0 _ _ _ (by decide) (by decide), by decide⟩
  · exact ⟨fun r hr => by simp [S3] at hr; subst hr; exact h0 _ _ _ (by decide) (by decide), by decide⟩
  · exact ⟨fun r hr => by simp [S4] at hr; rcases hr with rfl | rfl <;> exact h0 _ _ _ (by decide) (by decide), by decide⟩
end RW
theorem rws_lit (W : World) (l : List RW.Rw) : RwsV (W.alloc (.cells (rowCells RW.rwl l).toArray 57)) (.slice (some ⟨W.heap.size, 0, none⟩) l.length l.length) l := rows_lit (k := 12) (enc := RW.rwl) W 57 rw_len l
/-- one line, written out -/
theorem ln_lit (W : World) (x : RW.Ln) : LnsV (W.alloc (.cells #[.int .i64 x.1, .int .i64 x.2.1, .int .i64 x.2.2] 61)) (.slice (some ⟨W.heap.size, 0, none⟩) 1 1) [x] := by
  have := rows_lit (k := 3) (enc := RW.lnl) W 61 ln_len [x]
  simpa [rowCells, RW.lnl] using this
theorem s1c : (rowCells RW.rwl RW.S1).toArray = #[.int .i64 4, .int .i64 0, .int .i64 0, .int .i64 0, .int .i64 0, .int .i64 0, .int .i64 0, .int .i64 0, .int .i64 0, .int .i64 0, .int .i64 70000, .int .i64 0] := rfl
theorem s2c : (rowCells RW.rwl RW.S2).toArray = #[.int .i64 4, .int .i64 0, .int .i64 0, .int .i64 0, .int .i64 0, .int .i64 0, .int .i64 0, .int .i64 0, .int .i64 0, .int .i64 0, .int .i64 50000, .int .i64 0, .int .i64 4, .int .i64 2, .int .i64 0, .int .i64 0, .int .i64 0, .int .i64 0, .int .i64 0, .int .i64 0, .int .i64 0, .int .i64 0, .int .i64 10000, .int .i64 0, .int .i64 3, .int .i64 0, .int .i64 0, .int .i64 0, .int .i64 0, .int .i64 0, .int .i64 0, .int .i64 0, .int .i64 0, .int .i64 0, .int .i64 7, .int .i64 0] := rfl
theorem s3c : (rowCells RW.rwl RW.S3).toArray = #[.int .i64 4, .int .i64 0, .int .i64 0, .int .i64 0, .int .i64 0, .int .i64 0, .int .i64 0, .int .i64 0, .int .i64 0, .int .i64 0, .int .i64 5, .int .i64 0] := rfl
theorem s4c : (rowCells RW.rwl RW.S4).toArray = #[.int .i64 4, .int .i64 0, .int .i64 0, .int .i64 0, .int .i64 0, .int .i64 0, .int .i64 0, .int .i64 0, .int .i64 0, .int .i64 0, .int .i64 5, .int .i64 0, .int .i64 3, .int .i64 0, .int .i64 0, .int .i64 0, .int .i64 0, .int .i64 0, .int .i64 0, .int .i64 0, .int .i64 0, .int .i64 0, .int .i64 7, .int .i64 0] := rfl
theorem ldRow_stm (x : Value) : Instr.loadAt 39 x = ldRow 39 x := rfl
attribute [local go_sem ↓] ldRow_ln ldRow_stm
theorem lt_of_cell {W : World} {b o : Nat} {v : Value} (h : W.cell? ⟨b, o, none⟩ = some v) : b < W.heap.size := by
  rcases Nat.lt_or_ge b W.heap.size with h' | h'
  · exact h'
  · simp [World.cell?, Array.getElem?_eq_none h'] at h
theorem s_lit (W : World) (k : Nat) (l : List RW.Rw) (c : Array Value) (hc : (rowCells RW.rwl l).toArray = c) (hk : l.length = k) : RwsV (W.alloc (.cells c 57)) (.slice (some ⟨W.heap.size, 0, none⟩) k k) l := by
  rw [← hc, ← hk]
  exact rws_lit W l
set_option maxRecDepth 10000 in
set_option maxHeartbeats 4000000 in
theorem sane_any (w : World) : Calls Try.prog 8 #[] w fun e w' => e = .returned (.bool true) ∧ Below w.heap.size w w' := by
  obtain ⟨B, hBe⟩ : ∃ B, B = w.heap.size := ⟨_, rfl⟩
  rw [← hBe]
  have hBH := hide hBe
  have hA1 := hide (alloc_bel (Below.refl w.heap.size w) (Nat.le_refl _) (.cells #[.int .i64 4, .int .i64 0, .int .i64 0, .int .i64 0, .int .i64 0, .int .i64 0, .int .i64 0, .int .i64 0, .int .i64 0, .int .i64 0, .int .i64 70000, .int .i64 0] 57))
  have hA2 := hide (alloc_bel hA1.out (Nat.le_refl _) (.cells #[.int .i64 0, .slice none 0 0, .slice (some ⟨w.heap.size, 0, none⟩) 1 1, .slice none 0 0, .slice none 0 0, .slice none 0 0] 28))
  have hR1 := hide ((s_lit w 1 RW.S1 _ s1c rfl).next (alloc_bel (Below.refl _ _) (Nat.le_refl _) (.cells #[.int .i64 0, .slice none 0 0, .slice (some ⟨w.heap.size, 0, none⟩) 1 1, .slice none 0 0, .slice none 0 0, .slice none 0 0] 28)))
  have hG1 := hide (alloc_at1 (w.alloc (.cells #[.int .i64 4, .int .i64 0, .int .i64 0, .int .i64 0, .int .i64 0, .int .i64 0, .int .i64 0, .int .i64 0, .int .i64 0, .int .i64 0, .int .i64 70000, .int .i64 0] 57)) (.cells #[.int .i64 0, .slice none 0 0, .slice (some ⟨w.heap.size, 0, none⟩) 1 1, .slice none 0 0, .slice none 0 0, .slice none 0 0] 28))
  rw [alloc_size, ← hBe] at hG1
  rw [← hBe] at hA2 hR1
  go_enter Try.func8, Try.ntmps8
  go_upto_region 2 with fail
  rw [← hBe]
  refine gen_w (fun W => RwsV W (.slice (some ⟨B, 0, none⟩) 1 1) RW.S1 ∧ W.heap[B + 1]? = some (.cells (bks 0 (.slice (some ⟨B, 0, none⟩) 1 1)) 28 (0, 0)) ∧ Below B w W) ⟨hR1.out, hG1.out, hA2.out⟩ ?_
  clear hR1 hG1 hA2 hA1 hBe
  rintro w2 ⟨g1, g2, g3⟩
  obtain ⟨C, hCe⟩ : ∃ C, C = w2.heap.size := ⟨_, rfl⟩
  have hBC := hide (show B + 1 < C by rw [hCe]; exact (Array.getElem?_eq_some_iff.1 g2).1)
  have hA1 := hide (alloc_bel (Below.refl w2.heap.size w2) (Nat.le_refl _) (.cells #[.int .i64 4, .int .i64 0, .int .i64 0, .int .i64 0, .int .i64 0, .int .i64 0, .int .i64 0, .int .i64 0, .int .i64 0, .int .i64 0, .int .i64 50000, .int .i64 0, .int .i64 4, .int .i64 2, .int .i64 0, .int .i64 0, .int .i64 0, .int .i64 0, .int .i64 0, .int .i64 0, .int .i64 0, .int .i64 0, .int .i64 10000, .int .i64 0, .int .i64 3, .int .i64 0, .int .i64 0, .int .i64 0, .int .i64 0, .int .i64 0, .int .i64 0, .int .i64 0, .int .i64 0, .int .i64 0, .int .i64 7, .int .i64 0] 57))
  have hA2 := hide (alloc_bel hA1.out (Nat.le_refl _) (.cells #[.int .i64 2, .slice none 0 0, .slice (some ⟨w2.heap.size, 0, none⟩) 3 3, .slice none 0 0, .slice none 0 0, .slice none 0 0] 28))
  have hR1 := hide (g1.next hA2.out)
  have hG1 := hide ((hA2.out.block _ (Array.getElem?_eq_some_iff.1 g2).1).trans g2)
  have hB2 := hide (g3.trans (hA2.out.mono (by rw [← hCe]; have := hBC.out; omega)))
  have hR2 := hide ((s_lit w2 3 RW.S2 _ s2c rfl).next (alloc_bel (Below.refl _ _) (Nat.le_refl _) (.cells #[.int .i64 2, .slice none 0 0, .slice (some ⟨w2.heap.size, 0, none⟩) 3 3, .slice none 0 0, .slice none 0 0, .slice none 0 0] 28)))
  have hG2 := hide (alloc_at1 (w2.alloc (.cells #[.int .i64 4, .int .i64 0, .int .i64 0, .int .i64 0, .int .i64 0, .int .i64 0, .int .i64 0, .int .i64 0, .int .i64 0, .int .i64 0, .int .i64 50000, .int .i64 0, .int .i64 4, .int .i64 2, .int .i64 0, .int .i64 0, .int .i64 0, .int .i64 0, .int .i64 0, .int .i64 0, .int .i64 0, .int .i64 0, .int .i64 10000, .int .i64 0, .int .i64 3, .int .i64 0, .int .i64 0, .int .i64 0, .int .i64 0, .int .i64 0, .int .i64 0, .int .i64 0, .int .i64 0, .int .i64 0, .int .i64 7, .int .i64 0] 57)) (.cells #[.int .i64 2, .slice none 0 0, .slice (some ⟨w2.heap.size, 0, none⟩) 3 3, .slice none 0 0, .slice none 0 0, .slice none 0 0] 28))
  rw [alloc_size, ← hCe] at hG2
  rw [← hCe] at hR1 hG1 hB2 hR2
  clear g1 g2 g3
  go_upto_region 3 with fail
  rw [← hCe]
  refine gen_w (fun W => RwsV W (.slice (some ⟨B, 0, none⟩) 1 1) RW.S1 ∧ W.heap[B + 1]? = some (.cells (bks 0 (.slice (some ⟨B, 0, none⟩) 1 1)) 28 (0, 0)) ∧ RwsV W (.slice (some ⟨C, 0, none⟩) 3 3) RW.S2 ∧ W.heap[C + 1]? = some (.cells (bks 2 (.slice (some ⟨C, 0, none⟩) 3 3)) 28 (0, 0)) ∧ Below B w W) ⟨hR1.out, hG1.out, hR2.out, hG2.out, hB2.out⟩ ?_
  clear hR1 hG1 hR2 hG2 hB2 hA1 hA2 hCe
  rintro w3 ⟨g1, g2, g3, g4, g5⟩
  have g5H := hide g5
  have hn1 := RW.near_S RW.S1 (.inl rfl)
  have hn2 := RW.near_S RW.S2 (.inr (.inl rfl))
  have hOf := hide (of_any 0 2 4 (.slice (some ⟨B, 0, none⟩) 1 1) (.slice (some ⟨C, 0, none⟩) 3 3) RW.S1 RW.S2 hn1.2 hn2.2 hn1.1 hn2.1 w3 g1 g3)
  rw [RW.s_of] at hOf
  have hi1 : (Try.prog.info? 28).map (·.size) = some (bks 0 (.slice (some ⟨B, 0, none⟩) 1 1)).size := bk_size _ _
  have hi2 : (Try.prog.info? 28).map (·.size) = some (bks 2 (.slice (some ⟨C, 0, none⟩) 3 3)).size := bk_size _ _
  obtain ⟨L1, hL1⟩ : ∃ L, L = RW.sLn := ⟨_, rfl⟩
  rw [← hL1] at hOf
  have hL1H := hide hL1
  have hl2 : L1.length = 2 := by rw [hL1]; rfl
  clear g1 g3 hn1 hn2 g5 hL1
  go_upto_region 4 with (first
    | (refine wpList_load_row rfl 28 (.tmp 1) rfl (B + 1) rfl 28 _ (0, 0) _ g2 Try.underlying28 rfl hi1 ?_)
    | (refine wpList_load_row rfl 28 (.tmp 2) rfl (C + 1) rfl 28 _ (0, 0) _ g4 Try.underlying28 rfl hi2 ?_)
    | (go_at_call 12; refine hOf.out.mono ?_; rintro e w4 ⟨v4', rfl, hL4, hB4⟩; obtain ⟨a4, n4, e4⟩ := lnl_block hL4; rw [hl2] at e4; subst e4; have hL4H := hide hL4; have hB4H := hide (g5H.out.trans (hB4.mono (by have := g5H.out.size; rw [hBH.out]; exact this))); clear hL4 hB4))
  obtain ⟨D, hDe⟩ : ∃ D, D = w4.heap.size := ⟨_, rfl⟩
  have hA4 := hide (alloc_bel (Below.refl w4.heap.size w4) (Nat.le_refl _) (.cells #[.int .i64 4, .int .i64 2, .slice a4 2 n4] 39))
  have hG4 := hide (show (w4.alloc (.cells #[.int .i64 4, .int .i64 2, .slice a4 2 n4] 39)).heap[D]? = some (.cells #[.int .i64 4, .int .i64 2, .slice a4 2 n4] 39 (0, 0)) from newAt hDe)
  have hBD := hide (show B ≤ D by rw [hDe, hBH.out]; exact (hBH.out ▸ hB4H.out).size)
  rw [← hDe]
  refine gen_w (fun W => W.heap[D]? = some (.cells #[.int .i64 4, .int .i64 2, .slice a4 2 n4] 39 (0, 0)) ∧ LnsV W (.slice a4 2 n4) L1 ∧ Below B w W) ⟨hG4.out, (hL4H.out.next hA4.out).row, hB4H.out.trans (hA4.out.mono (by rw [← hDe]; exact hBD.out))⟩ ?_
  clear hG4 hA4 hL4H hB4H g2 g4 g5H hOf hi1 hi2 hDe hl2 hBC
  rintro w5 ⟨g1, g2, g3⟩
  have k1 := hide g1
  have k2 := hide g2
  have k3 := hide g3
  have hBsz := hide (fun W (hW : Below B w W) => (show B ≤ W.heap.size by rw [hBH.out]; exact (hBH.out ▸ hW).size))
  clear g1 g2 g3
  have hE := hide (fun W => encode_any 4 1 (.slice (some ⟨W.heap.size, 0, none⟩) 1 1) [(0, 0, 1)] (by decide) (W.alloc (.cells #[.int .i64 0, .int .i64 0, .int .i64 1] 61)) (ln_lit W (0, 0, 1)))
  rw [show RW.encRes (4, 1, [(0, 0, 1)]) = .tuple #[.string ⟨#[8, 2, 2, 0, 0, 2]⟩, .int .i64 0] by unfold RW.encRes; rw [if_pos RW.s_val, RW.s_enc]] at hE
  have hN := hide (fun W => encode_any 4 0 (.slice none 0 0) [] (by decide) W (RowV.nil W))
  rw [show RW.encRes (4, 0, []) = .tuple #[.string ⟨#[]⟩, .int .i64 190] by unfold RW.encRes; rw [if_neg (by rw [RW.s_nov]; decide)]] at hN
  have hD := hide (fun W => decode_any ⟨#[8, 2, 2, 0, 0, 2]⟩ (by decide) W)
  rw [show (⟨#[8, 2, 2, 0, 0, 2]⟩ : ByteArray).data.toList = [8, 2, 2, 0, 0, 2] from rfl, RW.s_dec] at hD
  simp only [DecOut] at hD
  have hA5 := hide (alloc_bel (Below.refl w5.heap.size w5) (Nat.le_refl _) (.cells #[.int .i64 0, .int .i64 0, .int .i64 1] 61))
  go_upto_region 5 with (go_at_call 20; refine (hE.out _).mono ?_; rintro e w6 ⟨rfl, hB6⟩; have hB6H := hide (hA5.out.trans (hB6.mono hA5.out.size)); clear hB6)
  go_upto_region 6 with (go_at_call 22; refine (hD.out _).mono ?_; rintro e w7 ⟨⟨v7, rfl, hL7⟩, hB7⟩; obtain ⟨a7, n7, e7⟩ := lnl_block hL7; rw [show [((0 : Int), (0 : Int), (1 : Int))].length = 1 from rfl] at e7; subst e7; have hL7H := hide hL7; have hB7H := hide (hB6H.out.trans (hB7.mono hB6H.out.size)); clear hL7 hB7)
  obtain ⟨E, hEe⟩ : ∃ E, E = w7.heap.size := ⟨_, rfl⟩
  have hA8 := hide (alloc_bel (Below.refl w7.heap.size w7) (Nat.le_refl _) (.cells #[.int .i64 4, .int .i64 1, .slice a7 1 n7] 39))
  have hB58 := hide (hB7H.out.trans (hA8.out.mono hB7H.out.size))
  have hG8 := hide (show (w7.alloc (.cells #[.int .i64 4, .int .i64 1, .slice a7 1 n7] 39)).heap[E]? = some (.cells #[.int .i64 4, .int .i64 1, .slice a7 1 n7] 39 (0, 0)) from newAt hEe)
  rw [← hEe]
  refine gen_w (fun W => W.heap[D]? = some (.cells #[.int .i64 4, .int .i64 2, .slice a4 2 n4] 39 (0, 0)) ∧ LnsV W (.slice a4 2 n4) L1 ∧ W.heap[E]? = some (.cells #[.int .i64 4, .int .i64 1, .slice a7 1 n7] 39 (0, 0)) ∧ LnsV W (.slice a7 1 n7) [(0, 0, 1)] ∧ Below B w W) ⟨(hB58.out.block _ (Array.getElem?_eq_some_iff.1 k1.out).1).trans k1.out, k2.out.next hB58.out, hG8.out, (hL7H.out.next hA8.out).row, k3.out.trans (hB58.out.mono (hBsz.out _ k3.out))⟩ ?_
  clear k1 k2 k3 hB58 hG8 hA8 hEe hL7H hB7H hB6H hA5 hE hD
  rintro w8 ⟨g1, g2, g3, g4, g5⟩
  have k1 := hide g1
  have k2 := hide g2
  have k3 := hide g3
  have k4 := hide g4
  have k5 := hide g5
  clear g1 g2 g3 g4 g5
  go_upto_region 7 with (go_at_call 20; refine (hN.out _).mono ?_; rintro e w9 ⟨rfl, hB9⟩; have hB9H := hide hB9; clear hB9)
  have hA9 := hide (alloc_bel (alloc_bel (Below.refl w9.heap.size w9) (Nat.le_refl _) (.cells #[.int .i64 4, .int .i64 0, .int .i64 0, .int .i64 0, .int .i64 0, .int .i64 0, .int .i64 0, .int .i64 0, .int .i64 0, .int .i64 0, .int .i64 5, .int .i64 0] 57)) (Nat.le_refl _) (.cells #[.int .i64 4, .int .i64 0, .int .i64 0, .int .i64 0, .int .i64 0, .int .i64 0, .int .i64 0, .int .i64 0, .int .i64 0, .int .i64 0, .int .i64 5, .int .i64 0, .int .i64 3, .int .i64 0, .int .i64 0, .int .i64 0, .int .i64 0, .int .i64 0, .int .i64 0, .int .i64 0, .int .i64 0, .int .i64 0, .int .i64 7, .int .i64 0] 57))
  have hn3 := RW.near_S RW.S3 (.inr (.inr (.inl rfl)))
  have hn4 := RW.near_S RW.S4 (.inr (.inr (.inr rfl)))
  have hr4 := s_lit (w9.alloc (.cells #[.int .i64 4, .int .i64 0, .int .i64 0, .int .i64 0, .int .i64 0, .int .i64 0, .int .i64 0, .int .i64 0, .int .i64 0, .int .i64 0, .int .i64 5, .int .i64 0] 57)) 2 RW.S4 _ s4c rfl
  rw [alloc_size] at hr4
  have hAll := hide (all_any 0 0 (.slice (some ⟨w9.heap.size, 0, none⟩) 1 1) (.slice (some ⟨w9.heap.size + 1, 0, none⟩) 2 2) RW.S3 RW.S4 hn3.2 hn4.2 hn3.1 hn4.1 ((w9.alloc (.cells #[.int .i64 4, .int .i64 0, .int .i64 0, .int .i64 0, .int .i64 0, .int .i64 0, .int .i64 0, .int .i64 0, .int .i64 0, .int .i64 0, .int .i64 5, .int .i64 0] 57)).alloc (.cells #[.int .i64 4, .int .i64 0, .int .i64 0, .int .i64 0, .int .i64 0, .int .i64 0, .int .i64 0, .int .i64 0, .int .i64 0, .int .i64 0, .int .i64 5, .int .i64 0, .int .i64 3, .int .i64 0, .int .i64 0, .int .i64 0, .int .i64 0, .int .i64 0, .int .i64 0, .int .i64 0, .int .i64 0, .int .i64 0, .int .i64 7, .int .i64 0] 57)) ((s_lit w9 1 RW.S3 _ s3c rfl).next (alloc_bel (Below.refl _ _) (Nat.le_refl _) _)) hr4)
  rw [RW.s_all] at hAll
  unfold bks at hAll
  have hAll2 := hide (hAll.out.mono (fun e w' hh => (show ∃ bs os cs, e = .returned (.slice (some ⟨bs, os, none⟩) 1 cs) ∧ w'.cell? ⟨bs, os, none⟩ = some (.int .i64 3) ∧ Below ((w9.alloc (.cells #[.int .i64 4, .int .i64 0, .int .i64 0, .int .i64 0, .int .i64 0, .int .i64 0, .int .i64 0, .int .i64 0, .int .i64 0, .int .i64 0, .int .i64 5, .int .i64 0] 57)).alloc (.cells #[.int .i64 4, .int .i64 0, .int .i64 0, .int .i64 0, .int .i64 0, .int .i64 0, .int .i64 0, .int .i64 0, .int .i64 0, .int .i64 0, .int .i64 5, .int .i64 0, .int .i64 3, .int .i64 0, .int .i64 0, .int .i64 0, .int .i64 0, .int .i64 0, .int .i64 0, .int .i64 0, .int .i64 0, .int .i64 0, .int .i64 7, .int .i64 0] 57)).heap.size ((w9.alloc (.cells #[.int .i64 4, .int .i64 0, .int .i64 0, .int .i64 0, .int .i64 0, .int .i64 0, .int .i64 0, .int .i64 0, .int .i64 0, .int .i64 0, .int .i64 5, .int .i64 0] 57)).alloc (.cells #[.int .i64 4, .int .i64 0, .int .i64 0, .int .i64 0, .int .i64 0, .int .i64 0, .int .i64 0, .int .i64 0, .int .i64 0, .int .i64 0, .int .i64 5, .int .i64 0, .int .i64 3, .int .i64 0, .int .i64 0, .int .i64 0, .int .i64 0, .int .i64 0, .int .i64 0, .int .i64 0, .int .i64 0, .int .i64 0, .int .i64 7, .int .i64 0] 57)) w' from by
    obtain ⟨v, vs, rfl, h1, h2⟩ := hh
    have hl := h1.len
    obtain ⟨us, ⟨a, c, rfl, _, ha⟩, hlu, hel⟩ := h1.sts
    have hu1 : us.length = 1 := hlu
    obtain ⟨u0, hu0⟩ : ∃ u, us[0]? = some u := ⟨_, List.getElem?_eq_getElem (by omega)⟩
    obtain ⟨b, o, rfl, _, hc⟩ := ha.resolve_left (by rintro rfl; simp at hu1)
    have h3 := hc 0 u0 hu0 0 _ rfl
    have h4 := (hel 0 u0 _ hu0 rfl).1
    refine ⟨b, o, c, by rw [hu1], ?_, h2⟩
    have h3' : w'.cell? ⟨b, o, none⟩ = some (.int .i64 u0.1) := by simpa using h3
    rw [h3', h4])))
  clear hn3 hn4 hr4 hAll
  go_upto_region 8 with (go_at_call 18; refine hAll2.out.mono ?_; rintro e w10 ⟨bs, os, cs, rfl, hcs, hB10⟩; have hcsH := hide hcs; have hB10H := hide (hB9H.out.trans ((hA9.out.mono hB9H.out.size).trans (hB10.mono (by have h1 := hB9H.out.size; have h2 := hA9.out.size; omega)))); clear hcs hB10)
  have hrows := hide (show ∃ b4 o4, a4 = some ⟨b4, o4, none⟩ ∧ w10.rangeAt b4 o4 (RW.lnl (0, 70000, 50000)) ∧ w10.rangeAt b4 (o4 + 3) (RW.lnl (2, 0, 10000)) from by
    have h1 := k2.out.next hB10H.out
    rw [hL1H.out] at h1
    obtain ⟨a, c, he, _, ha⟩ := h1
    cases he
    obtain ⟨b, o, rfl, _, hc⟩ := ha.resolve_left (by intro e; cases e)
    exact ⟨b, o, rfl, by have := hc 0 _ rfl; rwa [Nat.zero_mul, Nat.add_zero] at this, by have := hc 1 _ rfl; rwa [Nat.one_mul] at this⟩)
  obtain ⟨b4, o4, ha4, hr0, hr1⟩ := hrows.out
  subst ha4
  have hrow7 := hide (show ∃ b7 o7, a7 = some ⟨b7, o7, none⟩ ∧ w10.cell? ⟨b7, o7 + 2, none⟩ = some (.int .i64 1) from by
    have h1 := k4.out.next hB10H.out
    obtain ⟨a, c, he, _, ha⟩ := h1
    cases he
    obtain ⟨b, o, rfl, _, hc⟩ := ha.resolve_left (by intro e; cases e)
    exact ⟨b, o, rfl, by have := hc 0 _ rfl 2 _ rfl; rwa [Nat.zero_mul, Nat.add_zero] at this⟩)
  obtain ⟨b7, o7, ha7, hc7⟩ := hrow7.out
  subst ha7
  have hc7H := hide hc7
  have hDr := hide (fun W (hW : Below w8.heap.size w8 W) => (hW.block D (Array.getElem?_eq_some_iff.1 k1.out).1).trans k1.out)
  have hEr := hide (fun W (hW : Below w8.heap.size w8 W) => (hW.block E (Array.getElem?_eq_some_iff.1 k3.out).1).trans k3.out)
  have hLr := hide (fun W (hW : Below w8.heap.size w8 W) => k2.out.next hW)
  have hMr := hide (fun W (hW : Below w8.heap.size w8 W) => k4.out.next hW)
  have hBr := hide (fun W (hW : Below w8.heap.size w8 W) => k5.out.trans (hW.mono (hBsz.out _ k5.out)))
  have d1 : w10.cell? ⟨D, 1, none⟩ = some (.int .i64 2) := cellAt (hDr.out _ hB10H.out) 1
  have d2 : w10.cell? ⟨D, 2, none⟩ = some (.slice (some ⟨b4, o4, none⟩) 2 n4) := cellAt (hDr.out _ hB10H.out) 2
  have f2 : w10.cell? ⟨E, 2, none⟩ = some (.slice (some ⟨b7, o7, none⟩) 1 n7) := cellAt (hEr.out _ hB10H.out) 2
  clear hN hA9 hAll2 hB9H k1 k3 k2 k4 k5 hrows hrow7
  go_upto_region 10 with fail
  have hl1 := ldRow_mid (P := Try.prog) hr0 Try.underlying61 rfl (ln_size _)
  have hl2 := ldRow_mid (P := Try.prog) hr1 Try.underlying61 rfl (ln_size _)
  have hq1 : ∀ W, (binOp .eql 61 (.agg (RW.lnl (0, 70000, 50000)).toArray) (.agg (RW.lnl (0, 70000, 50000)).toArray)).run Try.prog W = .ok (.bool true) W := fun W => (eql_ln (0, 70000, 50000) (0, 70000, 50000) W).trans (by simp)
  have hq2 : ∀ W, (binOp .eql 61 (.agg (RW.lnl (2, 0, 10000)).toArray) (.agg (RW.lnl (2, 0, 10000)).toArray)).run Try.prog W = .ok (.bool true) W := fun W => (eql_ln (2, 0, 10000) (2, 0, 10000) W).trans (by simp)
  unfold RW.lnl at hl1 hl2 hq1 hq2
  have hTo := hide (fun W (hW : Below w8.heap.size w8 W) => total_any 4 2 (.slice (some ⟨b4, o4, none⟩) 2 n4) L1 (by rw [hL1H.out]; decide) W (hLr.out W hW))
  rw [show RW.tot L1 = -10000 by rw [hL1H.out]; exact RW.s_tot] at hTo
  have hS1 := hide (fun W (hW : Below w8.heap.size w8 W) => ssame_any 4 2 4 2 (.slice (some ⟨b4, o4, none⟩) 2 n4) (.slice (some ⟨b4, o4, none⟩) 2 n4) L1 L1 (by rw [hL1H.out]; decide) (by rw [hL1H.out]; decide) W (hLr.out W hW) (hLr.out W hW))
  rw [show decide ((4 : Int) = 4 ∧ (2 : Int) = 2 ∧ L1 = L1) = true from decide_eq_true ⟨rfl, rfl, rfl⟩] at hS1
  have hS2 := hide (fun W (hW : Below w8.heap.size w8 W) => ssame_any 4 2 4 1 (.slice (some ⟨b4, o4, none⟩) 2 n4) (.slice (some ⟨b7, o7, none⟩) 1 n7) L1 [(0, 0, 1)] (by rw [hL1H.out]; decide) (by decide) W (hLr.out W hW) (hMr.out W hW))
  rw [show decide ((4 : Int) = 4 ∧ (2 : Int) = 1 ∧ L1 = [(0, 0, 1)]) = false from decide_eq_false (fun e => absurd e.2.1 (by decide))] at hS2
  have hlD := hide (fun W (hW : Below w8.heap.size w8 W) => (show (ldRow 39 (.pointer (some ⟨D, 0, none⟩))).run Try.prog W = .ok (.agg #[.int .i64 4, .int .i64 2, .slice (some ⟨b4, o4, none⟩) 2 n4]) W from st_ld (x := (4, 2, .slice (some ⟨b4, o4, none⟩) 2 n4)) (st_row (hDr.out W hW))))
  have hlE := hide (fun W (hW : Below w8.heap.size w8 W) => (show (ldRow 39 (.pointer (some ⟨E, 0, none⟩))).run Try.prog W = .ok (.agg #[.int .i64 4, .int .i64 1, .slice (some ⟨b7, o7, none⟩) 1 n7]) W from st_ld (x := (4, 1, .slice (some ⟨b7, o7, none⟩) 1 n7)) (st_row (hEr.out W hW))))
  have ld0 := hlD.out w10 hB10H.out
  have tok1 : True := trivial
  clear hr0 hr1
  go_wp2_with (first
    | (go_at_call 15; refine (hTo.out _ hB10H.out).mono ?_; rintro e w11 ⟨rfl, hB11⟩; have hB11H := hide (hB10H.out.trans (hB11.mono hB10H.out.size)); have ld1 := hlD.out w11 hB11H.out; have hc71 : w11.cell? ⟨b7, o7 + 2, none⟩ = some (.int .i64 1) := (hB11.cell (p := ⟨b7, o7 + 2, none⟩) (lt_of_cell hc7H.out)).trans hc7H.out; have hcs1 : w11.cell? ⟨bs, os, none⟩ = some (.int .i64 3) := (hB11.cell (p := ⟨bs, os, none⟩) (lt_of_cell hcsH.out)).trans hcsH.out; have f21 : w11.cell? ⟨E, 2, none⟩ = some (.slice (some ⟨b7, o7, none⟩) 1 n7) := cellAt (hEr.out _ hB11H.out) 2; clear hB11)
    | (go_at_call 24; have _t := tok1; refine (hS1.out _ hB11H.out).mono ?_; rintro e w12 ⟨rfl, hB12⟩; have hB12H := hide (hB11H.out.trans (hB12.mono hB11H.out.size)); have ld2 := hlD.out w12 hB12H.out; have ld3 := hlE.out w12 hB12H.out; clear hB12 tok1)
    | (go_at_call 24; refine (hS2.out _ hB12H.out).mono ?_; rintro e w13 ⟨rfl, hB13⟩; have hB13H := hide (hB12H.out.trans (hB13.mono hB12H.out.size)); clear hB13))
  go_ret
  exact ⟨rfl, hBr.out _ hB13H.out⟩
end Go.Proofs.Ytillplhadimgmaa

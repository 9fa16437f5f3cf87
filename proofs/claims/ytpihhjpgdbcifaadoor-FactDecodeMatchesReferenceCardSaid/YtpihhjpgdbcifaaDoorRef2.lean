/-
  Package royaltyref05: numbers, Numbers, Written: what each returns; only new memory is written.
-/
import Derived.Test.YtpihhjpgdbcifaaDoorRef1
namespace Go.Proofs.YtpihhjpgdbcifaaDoor
open Go.RowKit
set_option maxRecDepth 100000 in
set_option maxHeartbeats 4000000 in
theorem rnumbers_any (f : Nat → Int) (s : ByteArray) (w : World) :
    Calls Tryd.prog 75 #[.agg (RW.fcells f s)] w fun e w' => ∃ B, e = .returned (.slice (some ⟨B, 0, none⟩) 17 17) ∧ w.heap.size ≤ B ∧ (∀ i, i < 17 → w'.cell? ⟨B, i, none⟩ = some (.int .i64 (f i))) ∧ Below w.heap.size w w' := by
  obtain ⟨cs, hcs⟩ : ∃ cs, cs = RW.fcells f s := ⟨_, rfl⟩
  rw [← hcs]
  have hcsH := hide hcs
  clear hcs
  go_enter Tryd.func75, Tryd.ntmps75
  go_upto_region 1 with fail
  obtain ⟨b, hb⟩ : ∃ b, b = w.heap.size := ⟨_, rfl⟩
  have hR := FRows.new (FRows.nil (Below.refl w.heap.size w)) f s
  rw [← hcsH.out, ← hb] at hR
  rw [← hb]
  refine gen_world (FRows [(b, f, s)] w) hR ?_
  clear hR hb
  intro W hF
  have c0 := hF.cell b f s (by simp) 0 (by decide)
  have c1 := hF.cell b f s (by simp) 1 (by decide)
  have c2 := hF.cell b f s (by simp) 2 (by decide)
  have c3 := hF.cell b f s (by simp) 3 (by decide)
  have c4 := hF.cell b f s (by simp) 4 (by decide)
  have c5 := hF.cell b f s (by simp) 5 (by decide)
  have c6 := hF.cell b f s (by simp) 6 (by decide)
  have c7 := hF.cell b f s (by simp) 7 (by decide)
  have c8 := hF.cell b f s (by simp) 8 (by decide)
  have c9 := hF.cell b f s (by simp) 9 (by decide)
  have c10 := hF.cell b f s (by simp) 10 (by decide)
  have c11 := hF.cell b f s (by simp) 11 (by decide)
  have c12 := hF.cell b f s (by simp) 12 (by decide)
  have c13 := hF.cell b f s (by simp) 13 (by decide)
  have c14 := hF.cell b f s (by simp) 14 (by decide)
  have c15 := hF.cell b f s (by simp) 15 (by decide)
  have c16 := hF.cell b f s (by simp) 16 (by decide)
  have hFH := hide hF
  clear hF
  go_wp2
  go_ret
  refine ⟨W.heap.size, rfl, hFH.out.below.size, fun i hi => ?_, hFH.out.below.alloc hFH.out.below.size _⟩
  rw [cell_of_heap (heap_alloc_new _ _)]
  rcases i with _ | _ | _ | _ | _ | _ | _ | _ | _ | _ | _ | _ | _ | _ | _ | _ | _ | i
  all_goals first | rfl | omega
/-- one number after the other -/
theorem enc_more (f : Nat → Int) (j : Nat) : (⟨(RW.encTo f j).toArray⟩ : ByteArray) ++ ⟨(RW.putI (f j)).toArray⟩ = ⟨(RW.encTo f (j + 1)).toArray⟩ := by
  rw [ByteArray.mk_append_mk, RW.encTo_succ]
set_option maxRecDepth 100000 in
set_option maxHeartbeats 4000000 in
theorem rNumbers_any (f : Nat → Int) (hbd : ∀ i, i < 17 → -4611686018427387903 ≤ f i ∧ f i ≤ 4611686018427387903) (B : Nat) (w : World) (hB : B < w.heap.size) (hc : ∀ i, i < 17 → w.cell? ⟨B, i, none⟩ = some (.int .i64 (f i))) :
    Calls Tryd.prog 74 #[.slice (some ⟨B, 0, none⟩) 17 17] w fun e w' => e = .returned (.string ⟨(RW.encTo f 17).toArray⟩) ∧ Below w.heap.size w w' := by
  have hcH := hide hc
  have hbdH := hide hbd
  clear hc hbd
  go_enter Tryd.func74, Tryd.ntmps74
  go_wp2
  go_loopw [3, 4] (fun o i wr => ∃ j : Nat, j ≤ 17 ∧ i = .int .i64 j ∧ o = .string ⟨(RW.encTo f j).toArray⟩ ∧ Below w.heap.size w wr) (fun _ i _ => 17 - (intOf i).toNat)
  case atStart => exact ⟨0, by omega, rfl, rfl, Below.refl _ _⟩
  case round =>
    obtain ⟨j, hj, rfl, rfl, hBw⟩ := hrel
    obtain ⟨S, hS⟩ : ∃ S : ByteArray, S = ⟨(RW.encTo f j).toArray⟩ := ⟨_, rfl⟩
    rw [← hS]
    have hSs : S.size ≤ 170 := by
      have h1 := RW.encTo_len f j
      have h2 : S.size = (RW.encTo f j).length := by rw [hS]; show Array.size _ = _; simp
      omega
    have hSH := hide hS
    clear hS
    by_cases hlt : j < 17
    · have cj : wr.cell? ⟨B, j, none⟩ = some (.int .i64 (f j)) := (World.cell?_of_block (a := ⟨B, j, none⟩) (hBw.block _ hB)).trans (hcH.out j hlt)
      have hn1 := hide (hbdH.out j hlt)
      obtain ⟨T, hT⟩ : ∃ T : ByteArray, T = ⟨(RW.putI (f j)).toArray⟩ := ⟨_, rfl⟩
      have hTs : T.size ≤ 10 := by
        have h1 := RW.putI_len (f j)
        have h2 : T.size = (RW.putI (f j)).length := by rw [hT]; show Array.size _ = _; simp
        omega
      have hST : S ++ T = ⟨(RW.encTo f (j + 1)).toArray⟩ := by rw [hSH.out, hT]; exact enc_more f j
      have hsz : S.size + T.size ≤ 9223372036854775807 := by omega
      have hsz2 : ¬ (9223372036854775807 < S.size + T.size) := by omega
      have hP : ∀ W, Calls Tryd.prog 83 #[.int .i64 (f j)] W fun e w' => e = .returned (.tuple #[.string T, .int .i64 0]) ∧ Below W.heap.size W w' := fun W => by rw [hT]; exact rputint (f j) hn1.out.1 hn1.out.2 W
      have hPH := hide hP
      have hSTH := hide hST
      clear hP hST hT
      go_wp2_with (go_at_call 83; refine (hPH.out _).mono ?_; rintro e w5 ⟨rfl, hB5⟩)
      go_roundw
      case rel => exact ⟨j + 1, by omega, by go_num, by rw [hSTH.out], hBw.trans (hB5.mono hBw.size)⟩
      case measure => simp [intOf]; omega
    · obtain rfl : j = 17 := by omega
      go_wp2
      go_ret
      exact ⟨by rw [hSH.out]; rfl, hBw⟩
theorem encL_bytes (f : Nat → Int) (s : ByteArray) : (⟨(RW.encTo f 17).toArray⟩ : ByteArray) ++ ⟨(RW.putS s.data.toList).toArray⟩ = ⟨(RW.encL f s.data.toList).toArray⟩ := by
  rw [ByteArray.mk_append_mk]; rfl
attribute [local go_sem ↓] ldRow_fact
set_option maxRecDepth 100000 in
set_option maxHeartbeats 4000000 in
theorem rwritten_any (f : Nat → Int) (s : ByteArray) (hs : s.size ≤ 65536) (hbd : ∀ i, i < 17 → -4611686018427387903 ≤ f i ∧ f i ≤ 4611686018427387903) (w : World) :
    Calls Tryd.prog 39 #[.agg (RW.fcells f s)] w fun e w' => e = .returned (.string ⟨(RW.encL f s.data.toList).toArray⟩) ∧ Below w.heap.size w w' := by
  obtain ⟨S, hS⟩ : ∃ S : ByteArray, S = ⟨(RW.encTo f 17).toArray⟩ := ⟨_, rfl⟩
  obtain ⟨T, hT⟩ : ∃ T : ByteArray, T = ⟨(RW.putS s.data.toList).toArray⟩ := ⟨_, rfl⟩
  have hE := encL_bytes f s
  rw [← hS, ← hT] at hE
  rw [← hE]
  have hSs : S.size ≤ 170 := by
    have h1 := RW.encTo_len f 17
    have h2 : S.size = (RW.encTo f 17).length := by rw [hS]; show Array.size _ = _; simp
    omega
  have hTs : T.size ≤ 65546 := by
    have h2 := RW.putI_len s.size
    have h3 : T.size = (RW.putS s.data.toList).length := by rw [hT]; show Array.size _ = _; simp
    have h4 : (RW.putS s.data.toList).length = (RW.putI s.size).length + s.size := by rw [RW.putS_eq, List.length_append, Array.length_toList]; rfl
    omega
  have hsz : S.size + T.size ≤ 9223372036854775807 := by omega
  have hsz2 : ¬ (9223372036854775807 < S.size + T.size) := by omega
  have hN : ∀ (B : Nat) (W : World), B < W.heap.size → (∀ i, i < 17 → W.cell? ⟨B, i, none⟩ = some (.int .i64 (f i))) → Calls Tryd.prog 74 #[.slice (some ⟨B, 0, none⟩) 17 17] W fun e w' => e = .returned (.string S) ∧ Below W.heap.size W w' := fun B W h1 h2 => by rw [hS]; exact rNumbers_any f hbd B W h1 h2
  have hP : ∀ W, Calls Tryd.prog 73 #[.string s] W fun e w' => e = .returned (.tuple #[.string T, .int .i64 0]) ∧ Below W.heap.size W w' := fun W => by rw [hT]; exact rputstr s hs W
  have hNH := hide hN; have hPH := hide hP
  clear hS hT hE hN hP hbd
  obtain ⟨cs, hcs⟩ : ∃ cs, cs = RW.fcells f s := ⟨_, rfl⟩
  rw [← hcs]
  have hcsH := hide hcs
  clear hcs
  go_enter Tryd.func39, Tryd.ntmps39
  go_upto_region 1 with fail
  obtain ⟨b, hb⟩ : ∃ b, b = w.heap.size := ⟨_, rfl⟩
  have hR := FRows.new (FRows.nil (Below.refl w.heap.size w)) f s
  rw [← hcsH.out, ← hb] at hR
  rw [← hb]
  refine gen_world (FRows [(b, f, s)] w) hR ?_
  clear hR hb
  intro W hF
  have c17 : W.cell? ⟨b, 17, none⟩ = some (.string s) := by rw [cell_of_heap (hF.rows (b, f, s) (by simp)), fcells_text]
  go_wp2_with fail
  refine (hPH.out _).mono ?_
  rintro e w1 ⟨rfl, hB1⟩
  have hF1 := hF.next hB1
  clear hF hB1 c17
  have l1 := hF1.load b f s (by simp)
  go_wp2_with fail
  refine (rnumbers_any f s _).mono ?_
  rintro e w2 ⟨B, rfl, hBl, hc, hB2⟩
  have hF2 := hF1.next hB2
  clear l1
  have hlt : B < w2.heap.size := by
    have := hc 0 (by decide)
    exact World.block_lt_of_cell? _ _ this
  have hcH := hide hc
  clear hc hF1 hB2 hBl
  go_wp2_with fail
  refine (hNH.out B _ hlt hcH.out).mono ?_
  rintro e w3 ⟨rfl, hB3⟩
  have hF3 := hF2.next hB3
  clear hF2 hB3
  go_wp2_with fail
  go_ret
  exact ⟨rfl, hF3.below⟩
end Go.Proofs.YtpihhjpgdbcifaaDoor

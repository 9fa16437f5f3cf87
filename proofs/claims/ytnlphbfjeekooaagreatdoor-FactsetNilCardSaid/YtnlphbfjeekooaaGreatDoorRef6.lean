/-
  Package royaltyref05: fields at its kinds: what it returns; only new memory is written.
-/
import Derived.Test.YtnlphbfjeekooaaGreatDoorRef4
namespace Go.Proofs.YtnlphbfjeekooaaGreatDoor
open Go.RowKit RG
set_option maxRecDepth 100000 in
set_option maxHeartbeats 8000000 in
theorem rfields1 (f : Nat → Int) (s : ByteArray) (h0 : f 0 = 1) (w : World) :
    Calls Tryz.prog 61 #[.agg (RW.fcells f s)] w fun e w' => e = .returned (.tuple #[.agg (RW.fcells (RW.gst (RW.yf f) [(1, f 1), (5, f 5), (6, f 6), (7, f 7), (8, f 8), (4, f 4), (13, f 13), (16, f 16)] 8) ⟨#[]⟩), .bool (((((((decide (1 ≤ f 1 ∧ f 1 ≤ 1000000) && decide (1 ≤ f 5 ∧ f 5 ≤ 1000000)) && decide (1 ≤ f 6 ∧ f 6 ≤ 1000000)) && decide (1 ≤ f 7 ∧ f 7 ≤ 1000000)) && decide (0 ≤ f 8 ∧ f 8 ≤ 7)) && decide (0 ≤ f 4 ∧ f 4 ≤ 3155759999)) && decide (0 ≤ f 13 ∧ f 13 ≤ 86400000)) && decide (0 ≤ f 16 ∧ f 16 ≤ 1))]) ∧ Below w.heap.size w w' := by
  obtain ⟨p1, hp1⟩ : ∃ p, p = decide (1 ≤ f 1 ∧ f 1 ≤ 1000000) := ⟨_, rfl⟩
  have c1 : ∀ W, Calls Tryz.prog 87 #[.int .i64 (f 1)] W fun e w' => e = .returned (.bool p1) ∧ W = w' := fun W => by rw [hp1]; exact rid_any (f 1) W
  obtain ⟨p2, hp2⟩ : ∃ p, p = decide (1 ≤ f 5 ∧ f 5 ≤ 1000000) := ⟨_, rfl⟩
  have c2 : ∀ W, Calls Tryz.prog 87 #[.int .i64 (f 5)] W fun e w' => e = .returned (.bool p2) ∧ W = w' := fun W => by rw [hp2]; exact rid_any (f 5) W
  obtain ⟨p3, hp3⟩ : ∃ p, p = decide (1 ≤ f 6 ∧ f 6 ≤ 1000000) := ⟨_, rfl⟩
  have c3 : ∀ W, Calls Tryz.prog 87 #[.int .i64 (f 6)] W fun e w' => e = .returned (.bool p3) ∧ W = w' := fun W => by rw [hp3]; exact rid_any (f 6) W
  obtain ⟨p4, hp4⟩ : ∃ p, p = decide (1 ≤ f 7 ∧ f 7 ≤ 1000000) := ⟨_, rfl⟩
  have c4 : ∀ W, Calls Tryz.prog 87 #[.int .i64 (f 7)] W fun e w' => e = .returned (.bool p4) ∧ W = w' := fun W => by rw [hp4]; exact rid_any (f 7) W
  obtain ⟨p5, hp5⟩ : ∃ p, p = decide (0 ≤ f 8 ∧ f 8 ≤ 7) := ⟨_, rfl⟩
  have c5 : ∀ W, Calls Tryz.prog 88 #[.int .i64 (f 8)] W fun e w' => e = .returned (.bool p5) ∧ W = w' := fun W => by rw [hp5]; exact rterr_any (f 8) W
  obtain ⟨p6, hp6⟩ : ∃ p, p = decide (0 ≤ f 4 ∧ f 4 ≤ 3155759999) := ⟨_, rfl⟩
  have c6 : ∀ W, Calls Tryz.prog 62 #[.int .i64 (f 4), .int .i64 0, .int .i64 3155759999] W fun e w' => e = .returned (.bool p6) ∧ W = w' := fun W => by rw [hp6]; exact rwithin_any (f 4) 0 3155759999 W
  obtain ⟨p7, hp7⟩ : ∃ p, p = decide (0 ≤ f 13 ∧ f 13 ≤ 86400000) := ⟨_, rfl⟩
  have c7 : ∀ W, Calls Tryz.prog 62 #[.int .i64 (f 13), .int .i64 0, .int .i64 86400000] W fun e w' => e = .returned (.bool p7) ∧ W = w' := fun W => by rw [hp7]; exact rwithin_any (f 13) 0 86400000 W
  obtain ⟨p8, hp8⟩ : ∃ p, p = decide (0 ≤ f 16 ∧ f 16 ≤ 1) := ⟨_, rfl⟩
  have c8 : ∀ W, Calls Tryz.prog 62 #[.int .i64 (f 16), .int .i64 0, .int .i64 1] W fun e w' => e = .returned (.bool p8) ∧ W = w' := fun W => by rw [hp8]; exact rwithin_any (f 16) 0 1 W
  rw [← hp1, ← hp2, ← hp3, ← hp4, ← hp5, ← hp6, ← hp7, ← hp8]
  obtain ⟨q2, hq2⟩ : ∃ q, q = (p1 && p2) := ⟨_, rfl⟩
  rw [← hq2]
  obtain ⟨q3, hq3⟩ : ∃ q, q = (q2 && p3) := ⟨_, rfl⟩
  rw [← hq3]
  obtain ⟨q4, hq4⟩ : ∃ q, q = (q3 && p4) := ⟨_, rfl⟩
  rw [← hq4]
  obtain ⟨q5, hq5⟩ : ∃ q, q = (q4 && p5) := ⟨_, rfl⟩
  rw [← hq5]
  obtain ⟨q6, hq6⟩ : ∃ q, q = (q5 && p6) := ⟨_, rfl⟩
  rw [← hq6]
  obtain ⟨q7, hq7⟩ : ∃ q, q = (q6 && p7) := ⟨_, rfl⟩
  rw [← hq7]
  obtain ⟨q8, hq8⟩ : ∃ q, q = (q7 && p8) := ⟨_, rfl⟩
  rw [← hq8]
  have c1H := hide c1
  clear c1
  have hp1H := hide hp1
  clear hp1
  have c2H := hide c2
  clear c2
  have hp2H := hide hp2
  clear hp2
  have hq2H := hide hq2
  clear hq2
  have c3H := hide c3
  clear c3
  have hp3H := hide hp3
  clear hp3
  have hq3H := hide hq3
  clear hq3
  have c4H := hide c4
  clear c4
  have hp4H := hide hp4
  clear hp4
  have hq4H := hide hq4
  clear hq4
  have c5H := hide c5
  clear c5
  have hp5H := hide hp5
  clear hp5
  have hq5H := hide hq5
  clear hq5
  have c6H := hide c6
  clear c6
  have hp6H := hide hp6
  clear hp6
  have hq6H := hide hq6
  clear hq6
  have c7H := hide c7
  clear c7
  have hp7H := hide hp7
  clear hp7
  have hq7H := hide hq7
  clear hq7
  have c8H := hide c8
  clear c8
  have hp8H := hide hp8
  clear hp8
  have hq8H := hide hq8
  clear hq8
  obtain ⟨cs, hcs⟩ : ∃ cs, cs = RW.fcells f s := ⟨_, rfl⟩
  rw [← hcs]
  have hcsH := hide hcs; have h0H := hide h0
  clear hcs h0
  have hiY := fact_info (RW.yf f) ⟨#[]⟩
  go_enter Tryz.func61, Tryz.ntmps61
  go_upto_region 1 with fail
  rw [← fzero]
  obtain ⟨b1, hb1⟩ : ∃ b, b = w.heap.size := ⟨_, rfl⟩
  obtain ⟨b3, hb3⟩ : ∃ b, b = w.heap.size + 1 := ⟨_, rfl⟩
  have hR := (FRows.new (FRows.nil (Below.refl w.heap.size w)) f s).new RW.zeroF ⟨#[]⟩
  rw [show (w.alloc (.cells (RW.fcells f s) 38)).heap.size = b3 by rw [hb3]; simp, ← hcsH.out, ← hb1] at hR
  rw [← hb1] at ⊢
  rw [show b1 + 1 = b3 by omega]
  have hle3 := hide (show w.heap.size ≤ b3 by omega)
  have hb13 := hide (show b1 ≠ b3 by omega)
  refine gen_world (FRows [(b1, f, s), (b3, RW.zeroF, ⟨#[]⟩)] w) (hR.sub (by simp)) ?_
  intro W0 hF0
  clear hR hb1 hb3
  have c0 := hF0.cell b1 f s (by simp) 0 (by decide)
  have c2 := hF0.cell b1 f s (by simp) 2 (by decide)
  go_upto_region 2 with (refine wpList_store_new rfl 38 (.tmp 4) (.tmp 9) rfl (RW.fcells (RW.yf f) ⟨#[]⟩) rfl rfl 38 _ hiY rfl (fcells_one _ _) ?_)
  clear c0 c2 hiY
  have hR := hF0.new (RW.yf f) ⟨#[]⟩
  have hl1 := hF0.lt (b1, f, s) (by simp)
  have hl3 := hF0.lt (b3, RW.zeroF, ⟨#[]⟩) (by simp)
  have hl0 := hF0.below.size
  obtain ⟨b2, hb2⟩ : ∃ b, b = W0.heap.size := ⟨_, rfl⟩
  rw [← hb2] at hR hl1 hl3 hl0 ⊢
  have hle2 := hide (show w.heap.size ≤ b2 by omega)
  have hbbH := hide (show b1 ≠ b2 ∧ b1 ≠ b3 ∧ b2 ≠ b3 by have := hb13.out; simp at hl1 hl3; omega)
  have hne := hide (show ∀ x ∈ [(b1, f, s), (b3, RW.zeroF, (⟨#[]⟩ : ByteArray))], x.1 ≠ b2 by have := hbbH.out; simp; omega)
  refine gen_world (FRows [(b2, RW.yf f, ⟨#[]⟩), (b1, f, s), (b3, RW.zeroF, ⟨#[]⟩)] w) hR ?_
  clear hR hb2 hl1 hl3 hl0 hF0
  intro W hF
  have c0 := hF.cell b1 f s (by simp) 0 (by decide)
  rw [h0H.out] at c0
  go_upto_region 4 with fail
  refine wp_region_staged (fun j => FRows ((b2, (match j with | 0 => RW.gst (RW.yf f) [(1, f 1), (5, f 5), (6, f 6), (7, f 7), (8, f 8), (4, f 4), (13, f 13), (16, f 16)] 0 | 1 => RW.gst (RW.yf f) [(1, f 1), (5, f 5), (6, f 6), (7, f 7), (8, f 8), (4, f 4), (13, f 13), (16, f 16)] 1 | 2 => RW.gst (RW.yf f) [(1, f 1), (5, f 5), (6, f 6), (7, f 7), (8, f 8), (4, f 4), (13, f 13), (16, f 16)] 2 | 3 => RW.gst (RW.yf f) [(1, f 1), (5, f 5), (6, f 6), (7, f 7), (8, f 8), (4, f 4), (13, f 13), (16, f 16)] 3 | _ => RW.gst (RW.yf f) [(1, f 1), (5, f 5), (6, f 6), (7, f 7), (8, f 8), (4, f 4), (13, f 13), (16, f 16)] 4), (match j with | 0 => ⟨#[]⟩ | 1 => ⟨#[]⟩ | 2 => ⟨#[]⟩ | 3 => ⟨#[]⟩ | _ => ⟨#[]⟩)) :: [(b1, f, s), (b3, RW.zeroF, ⟨#[]⟩)]) w) [9, 11, 13, 15] (by kernel_rfl) (by kernel_rfl) (by rfl) hF.drew ?_
  clear hF
  refine st_val (.pointer (some ⟨b1, 1, none⟩)) (by rfl) (by rfl) (fun w => op_fa_1 rfl rfl) ?_
  simp only [Act.put, List.setIfInBounds_toArray, List.set_cons_zero, List.set_cons_succ]
  refine st_op (.int .i64 (f 1)) (by rfl) (by rfl) (fun j w _ hS => by rw [op_load_int rfl rfl (hS.cell b1 f s (by simp) 1 (by decide))]; exact ⟨rfl, hS⟩) ?_
  simp only [Act.put, List.setIfInBounds_toArray, List.set_cons_zero, List.set_cons_succ]
  refine st_val (.pointer (some ⟨b1, 5, none⟩)) (by rfl) (by rfl) (fun w => op_fa_5 rfl rfl) ?_
  simp only [Act.put, List.setIfInBounds_toArray, List.set_cons_zero, List.set_cons_succ]
  refine st_op (.int .i64 (f 5)) (by rfl) (by rfl) (fun j w _ hS => by rw [op_load_int rfl rfl (hS.cell b1 f s (by simp) 5 (by decide))]; exact ⟨rfl, hS⟩) ?_
  simp only [Act.put, List.setIfInBounds_toArray, List.set_cons_zero, List.set_cons_succ]
  refine st_val (.pointer (some ⟨b1, 6, none⟩)) (by rfl) (by rfl) (fun w => op_fa_6 rfl rfl) ?_
  simp only [Act.put, List.setIfInBounds_toArray, List.set_cons_zero, List.set_cons_succ]
  refine st_op (.int .i64 (f 6)) (by rfl) (by rfl) (fun j w _ hS => by rw [op_load_int rfl rfl (hS.cell b1 f s (by simp) 6 (by decide))]; exact ⟨rfl, hS⟩) ?_
  simp only [Act.put, List.setIfInBounds_toArray, List.set_cons_zero, List.set_cons_succ]
  refine st_val (.pointer (some ⟨b1, 7, none⟩)) (by rfl) (by rfl) (fun w => op_fa_7 rfl rfl) ?_
  simp only [Act.put, List.setIfInBounds_toArray, List.set_cons_zero, List.set_cons_succ]
  refine st_op (.int .i64 (f 7)) (by rfl) (by rfl) (fun j w _ hS => by rw [op_load_int rfl rfl (hS.cell b1 f s (by simp) 7 (by decide))]; exact ⟨rfl, hS⟩) ?_
  simp only [Act.put, List.setIfInBounds_toArray, List.set_cons_zero, List.set_cons_succ]
  refine st_val (.pointer (some ⟨b2, 1, none⟩)) (by rfl) (by rfl) (fun w => op_fa_1 rfl rfl) ?_
  simp only [Act.put, List.setIfInBounds_toArray, List.set_cons_zero, List.set_cons_succ]
  refine st_step 0 undef (by rfl) (by rfl) (by decide +kernel) (fun w hS => by rw [op_store_int rfl rfl rfl (hS.cell b2 (RW.gst (RW.yf f) [(1, f 1), (5, f 5), (6, f 6), (7, f 7), (8, f 8), (4, f 4), (13, f 13), (16, f 16)] 0) ⟨#[]⟩ (by simp) 1 (by decide)) (hS.unfrozen b2 (RW.gst (RW.yf f) [(1, f 1), (5, f 5), (6, f 6), (7, f 7), (8, f 8), (4, f 4), (13, f 13), (16, f 16)] 0) ⟨#[]⟩ (by simp) 1)]; exact ⟨rfl, hS.set hle2.out hne.out 1 (by decide) (f 1)⟩) ?_
  simp only [Act.put]
  refine st_val (.pointer (some ⟨b2, 5, none⟩)) (by rfl) (by rfl) (fun w => op_fa_5 rfl rfl) ?_
  simp only [Act.put, List.setIfInBounds_toArray, List.set_cons_zero, List.set_cons_succ]
  refine st_step 1 undef (by rfl) (by rfl) (by decide +kernel) (fun w hS => by rw [op_store_int rfl rfl rfl (hS.cell b2 (RW.gst (RW.yf f) [(1, f 1), (5, f 5), (6, f 6), (7, f 7), (8, f 8), (4, f 4), (13, f 13), (16, f 16)] 1) ⟨#[]⟩ (by simp) 5 (by decide)) (hS.unfrozen b2 (RW.gst (RW.yf f) [(1, f 1), (5, f 5), (6, f 6), (7, f 7), (8, f 8), (4, f 4), (13, f 13), (16, f 16)] 1) ⟨#[]⟩ (by simp) 5)]; exact ⟨rfl, hS.set hle2.out hne.out 5 (by decide) (f 5)⟩) ?_
  simp only [Act.put]
  refine st_val (.pointer (some ⟨b2, 6, none⟩)) (by rfl) (by rfl) (fun w => op_fa_6 rfl rfl) ?_
  simp only [Act.put, List.setIfInBounds_toArray, List.set_cons_zero, List.set_cons_succ]
  refine st_step 2 undef (by rfl) (by rfl) (by decide +kernel) (fun w hS => by rw [op_store_int rfl rfl rfl (hS.cell b2 (RW.gst (RW.yf f) [(1, f 1), (5, f 5), (6, f 6), (7, f 7), (8, f 8), (4, f 4), (13, f 13), (16, f 16)] 2) ⟨#[]⟩ (by simp) 6 (by decide)) (hS.unfrozen b2 (RW.gst (RW.yf f) [(1, f 1), (5, f 5), (6, f 6), (7, f 7), (8, f 8), (4, f 4), (13, f 13), (16, f 16)] 2) ⟨#[]⟩ (by simp) 6)]; exact ⟨rfl, hS.set hle2.out hne.out 6 (by decide) (f 6)⟩) ?_
  simp only [Act.put]
  refine st_val (.pointer (some ⟨b2, 7, none⟩)) (by rfl) (by rfl) (fun w => op_fa_7 rfl rfl) ?_
  simp only [Act.put, List.setIfInBounds_toArray, List.set_cons_zero, List.set_cons_succ]
  refine st_step 3 undef (by rfl) (by rfl) (by decide +kernel) (fun w hS => by rw [op_store_int rfl rfl rfl (hS.cell b2 (RW.gst (RW.yf f) [(1, f 1), (5, f 5), (6, f 6), (7, f 7), (8, f 8), (4, f 4), (13, f 13), (16, f 16)] 3) ⟨#[]⟩ (by simp) 7 (by decide)) (hS.unfrozen b2 (RW.gst (RW.yf f) [(1, f 1), (5, f 5), (6, f 6), (7, f 7), (8, f 8), (4, f 4), (13, f 13), (16, f 16)] 3) ⟨#[]⟩ (by simp) 7)]; exact ⟨rfl, hS.set hle2.out hne.out 7 (by decide) (f 7)⟩) ?_
  simp only [Act.put]
  refine st_nil ?_
  intro W1 hG1
  replace hG1 : FRows ((b2, RW.gst (RW.yf f) [(1, f 1), (5, f 5), (6, f 6), (7, f 7), (8, f 8), (4, f 4), (13, f 13), (16, f 16)] 4, ⟨#[]⟩) :: [(b1, f, s), (b3, RW.zeroF, ⟨#[]⟩)]) w W1 := hG1
  go_upto_region 5 with fail
  refine wp_region_staged (fun j => FRows ((b2, (match j with | 0 => RW.gst (RW.yf f) [(1, f 1), (5, f 5), (6, f 6), (7, f 7), (8, f 8), (4, f 4), (13, f 13), (16, f 16)] 4 | 1 => RW.gst (RW.yf f) [(1, f 1), (5, f 5), (6, f 6), (7, f 7), (8, f 8), (4, f 4), (13, f 13), (16, f 16)] 5 | 2 => RW.gst (RW.yf f) [(1, f 1), (5, f 5), (6, f 6), (7, f 7), (8, f 8), (4, f 4), (13, f 13), (16, f 16)] 6 | 3 => RW.gst (RW.yf f) [(1, f 1), (5, f 5), (6, f 6), (7, f 7), (8, f 8), (4, f 4), (13, f 13), (16, f 16)] 7 | _ => RW.gst (RW.yf f) [(1, f 1), (5, f 5), (6, f 6), (7, f 7), (8, f 8), (4, f 4), (13, f 13), (16, f 16)] 8), (match j with | 0 => ⟨#[]⟩ | 1 => ⟨#[]⟩ | 2 => ⟨#[]⟩ | 3 => ⟨#[]⟩ | _ => ⟨#[]⟩)) :: [(b1, f, s), (b3, RW.zeroF, ⟨#[]⟩)]) w) [9, 11, 13, 15] (by kernel_rfl) (by kernel_rfl) (by rfl) hG1.drew ?_
  refine st_val (.pointer (some ⟨b1, 8, none⟩)) (by rfl) (by rfl) (fun w => op_fa_8 rfl rfl) ?_
  simp only [Act.put, List.setIfInBounds_toArray, List.set_cons_zero, List.set_cons_succ]
  refine st_op (.int .i64 (f 8)) (by rfl) (by rfl) (fun j w _ hS => by rw [op_load_int rfl rfl (hS.cell b1 f s (by simp) 8 (by decide))]; exact ⟨rfl, hS⟩) ?_
  simp only [Act.put, List.setIfInBounds_toArray, List.set_cons_zero, List.set_cons_succ]
  refine st_val (.pointer (some ⟨b1, 4, none⟩)) (by rfl) (by rfl) (fun w => op_fa_4 rfl rfl) ?_
  simp only [Act.put, List.setIfInBounds_toArray, List.set_cons_zero, List.set_cons_succ]
  refine st_op (.int .i64 (f 4)) (by rfl) (by rfl) (fun j w _ hS => by rw [op_load_int rfl rfl (hS.cell b1 f s (by simp) 4 (by decide))]; exact ⟨rfl, hS⟩) ?_
  simp only [Act.put, List.setIfInBounds_toArray, List.set_cons_zero, List.set_cons_succ]
  refine st_val (.pointer (some ⟨b1, 13, none⟩)) (by rfl) (by rfl) (fun w => op_fa_13 rfl rfl) ?_
  simp only [Act.put, List.setIfInBounds_toArray, List.set_cons_zero, List.set_cons_succ]
  refine st_op (.int .i64 (f 13)) (by rfl) (by rfl) (fun j w _ hS => by rw [op_load_int rfl rfl (hS.cell b1 f s (by simp) 13 (by decide))]; exact ⟨rfl, hS⟩) ?_
  simp only [Act.put, List.setIfInBounds_toArray, List.set_cons_zero, List.set_cons_succ]
  refine st_val (.pointer (some ⟨b1, 16, none⟩)) (by rfl) (by rfl) (fun w => op_fa_16 rfl rfl) ?_
  simp only [Act.put, List.setIfInBounds_toArray, List.set_cons_zero, List.set_cons_succ]
  refine st_op (.int .i64 (f 16)) (by rfl) (by rfl) (fun j w _ hS => by rw [op_load_int rfl rfl (hS.cell b1 f s (by simp) 16 (by decide))]; exact ⟨rfl, hS⟩) ?_
  simp only [Act.put, List.setIfInBounds_toArray, List.set_cons_zero, List.set_cons_succ]
  refine st_val (.pointer (some ⟨b2, 8, none⟩)) (by rfl) (by rfl) (fun w => op_fa_8 rfl rfl) ?_
  simp only [Act.put, List.setIfInBounds_toArray, List.set_cons_zero, List.set_cons_succ]
  refine st_step 0 undef (by rfl) (by rfl) (by decide +kernel) (fun w hS => by rw [op_store_int rfl rfl rfl (hS.cell b2 (RW.gst (RW.yf f) [(1, f 1), (5, f 5), (6, f 6), (7, f 7), (8, f 8), (4, f 4), (13, f 13), (16, f 16)] 4) ⟨#[]⟩ (by simp) 8 (by decide)) (hS.unfrozen b2 (RW.gst (RW.yf f) [(1, f 1), (5, f 5), (6, f 6), (7, f 7), (8, f 8), (4, f 4), (13, f 13), (16, f 16)] 4) ⟨#[]⟩ (by simp) 8)]; exact ⟨rfl, hS.set hle2.out hne.out 8 (by decide) (f 8)⟩) ?_
  simp only [Act.put]
  refine st_val (.pointer (some ⟨b2, 4, none⟩)) (by rfl) (by rfl) (fun w => op_fa_4 rfl rfl) ?_
  simp only [Act.put, List.setIfInBounds_toArray, List.set_cons_zero, List.set_cons_succ]
  refine st_step 1 undef (by rfl) (by rfl) (by decide +kernel) (fun w hS => by rw [op_store_int rfl rfl rfl (hS.cell b2 (RW.gst (RW.yf f) [(1, f 1), (5, f 5), (6, f 6), (7, f 7), (8, f 8), (4, f 4), (13, f 13), (16, f 16)] 5) ⟨#[]⟩ (by simp) 4 (by decide)) (hS.unfrozen b2 (RW.gst (RW.yf f) [(1, f 1), (5, f 5), (6, f 6), (7, f 7), (8, f 8), (4, f 4), (13, f 13), (16, f 16)] 5) ⟨#[]⟩ (by simp) 4)]; exact ⟨rfl, hS.set hle2.out hne.out 4 (by decide) (f 4)⟩) ?_
  simp only [Act.put]
  refine st_val (.pointer (some ⟨b2, 13, none⟩)) (by rfl) (by rfl) (fun w => op_fa_13 rfl rfl) ?_
  simp only [Act.put, List.setIfInBounds_toArray, List.set_cons_zero, List.set_cons_succ]
  refine st_step 2 undef (by rfl) (by rfl) (by decide +kernel) (fun w hS => by rw [op_store_int rfl rfl rfl (hS.cell b2 (RW.gst (RW.yf f) [(1, f 1), (5, f 5), (6, f 6), (7, f 7), (8, f 8), (4, f 4), (13, f 13), (16, f 16)] 6) ⟨#[]⟩ (by simp) 13 (by decide)) (hS.unfrozen b2 (RW.gst (RW.yf f) [(1, f 1), (5, f 5), (6, f 6), (7, f 7), (8, f 8), (4, f 4), (13, f 13), (16, f 16)] 6) ⟨#[]⟩ (by simp) 13)]; exact ⟨rfl, hS.set hle2.out hne.out 13 (by decide) (f 13)⟩) ?_
  simp only [Act.put]
  refine st_val (.pointer (some ⟨b2, 16, none⟩)) (by rfl) (by rfl) (fun w => op_fa_16 rfl rfl) ?_
  simp only [Act.put, List.setIfInBounds_toArray, List.set_cons_zero, List.set_cons_succ]
  refine st_step 3 undef (by rfl) (by rfl) (by decide +kernel) (fun w hS => by rw [op_store_int rfl rfl rfl (hS.cell b2 (RW.gst (RW.yf f) [(1, f 1), (5, f 5), (6, f 6), (7, f 7), (8, f 8), (4, f 4), (13, f 13), (16, f 16)] 7) ⟨#[]⟩ (by simp) 16 (by decide)) (hS.unfrozen b2 (RW.gst (RW.yf f) [(1, f 1), (5, f 5), (6, f 6), (7, f 7), (8, f 8), (4, f 4), (13, f 13), (16, f 16)] 7) ⟨#[]⟩ (by simp) 16)]; exact ⟨rfl, hS.set hle2.out hne.out 16 (by decide) (f 16)⟩) ?_
  simp only [Act.put]
  refine st_nil ?_
  intro W2 hG2
  replace hG2 : FRows ((b2, RW.gst (RW.yf f) [(1, f 1), (5, f 5), (6, f 6), (7, f 7), (8, f 8), (4, f 4), (13, f 13), (16, f 16)] 8, ⟨#[]⟩) :: [(b1, f, s), (b3, RW.zeroF, ⟨#[]⟩)]) w W2 := hG2
  go_upto_region 6 with fail
  refine wp_region_staged (fun j => FRows ((b3, (match j with | 0 => RW.zeroF | _ => RW.gst (RW.yf f) [(1, f 1), (5, f 5), (6, f 6), (7, f 7), (8, f 8), (4, f 4), (13, f 13), (16, f 16)] 8), (match j with | 0 => ⟨#[]⟩ | _ => ⟨#[]⟩)) :: [(b2, RW.gst (RW.yf f) [(1, f 1), (5, f 5), (6, f 6), (7, f 7), (8, f 8), (4, f 4), (13, f 13), (16, f 16)] 8, ⟨#[]⟩), (b1, f, s)]) w) [39] (by kernel_rfl) (by kernel_rfl) (by rfl) (hG2.sub (l' := (b3, RW.zeroF, ⟨#[]⟩) :: [(b2, RW.gst (RW.yf f) [(1, f 1), (5, f 5), (6, f 6), (7, f 7), (8, f 8), (4, f 4), (13, f 13), (16, f 16)] 8, ⟨#[]⟩), (b1, f, s)]) (by simp)).drew ?_
  clear hG2
  have hn3 := hide (show ∀ x ∈ (b3, RW.gst (RW.yf f) [(1, f 1), (5, f 5), (6, f 6), (7, f 7), (8, f 8), (4, f 4), (13, f 13), (16, f 16)] 8, ⟨#[]⟩) :: [(b2, RW.gst (RW.yf f) [(1, f 1), (5, f 5), (6, f 6), (7, f 7), (8, f 8), (4, f 4), (13, f 13), (16, f 16)] 8, ⟨#[]⟩), (b1, f, s)], x = (b3, RW.gst (RW.yf f) [(1, f 1), (5, f 5), (6, f 6), (7, f 7), (8, f 8), (4, f 4), (13, f 13), (16, f 16)] 8, ⟨#[]⟩) ∨ (x ∈ (b3, RW.zeroF, (⟨#[]⟩ : ByteArray)) :: [(b2, RW.gst (RW.yf f) [(1, f 1), (5, f 5), (6, f 6), (7, f 7), (8, f 8), (4, f 4), (13, f 13), (16, f 16)] 8, ⟨#[]⟩), (b1, f, s)] ∧ x.1 ≠ b3) by have := hbbH.out; simp; omega)
  refine st_op (.agg (RW.fcells (RW.gst (RW.yf f) [(1, f 1), (5, f 5), (6, f 6), (7, f 7), (8, f 8), (4, f 4), (13, f 13), (16, f 16)] 8) ⟨#[]⟩)) (by rfl) (by rfl) (fun j w _ hS => by rw [op_load_fact rfl rfl (hS.load b2 (RW.gst (RW.yf f) [(1, f 1), (5, f 5), (6, f 6), (7, f 7), (8, f 8), (4, f 4), (13, f 13), (16, f 16)] 8) ⟨#[]⟩ (by simp))]; exact ⟨rfl, hS⟩) ?_
  simp only [Act.put, List.setIfInBounds_toArray, List.set_cons_zero, List.set_cons_succ]
  refine st_op (.pointer (some ⟨b1, 1, none⟩)) (by rfl) (by rfl) (fun j w _ hS => by rw [op_fa_1 rfl rfl]; exact ⟨rfl, hS⟩) ?_
  simp only [Act.put, List.setIfInBounds_toArray, List.set_cons_zero, List.set_cons_succ]
  refine st_op (.int .i64 (f 1)) (by rfl) (by rfl) (fun j w _ hS => by rw [op_load_int rfl rfl (hS.cell b1 f s (by simp) 1 (by decide))]; exact ⟨rfl, hS⟩) ?_
  simp only [Act.put, List.setIfInBounds_toArray, List.set_cons_zero, List.set_cons_succ]
  refine st_op (.bool p1) (by rfl) (by rfl) (fun j w _ hS => by rw [op_call1 rfl rfl rfl cf_id]; exact (c1H.out w).mono fun e w' h => by obtain ⟨rfl, rfl⟩ := h; exact ⟨rfl, hS⟩) ?_
  simp only [Act.put, List.setIfInBounds_toArray, List.set_cons_zero, List.set_cons_succ]
  refine st_val (.bool p1) (by rfl) (by rfl) (fun w => rfl) ?_
  simp only [Act.put, List.setIfInBounds_toArray, List.set_cons_zero, List.set_cons_succ]
  refine st_if p1 (.pointer (some ⟨b1, 5, none⟩)) (by cases p1 <;> rfl) (by rfl) (fun hq j w _ hS => by rw [op_fa_5 rfl rfl]; exact ⟨rfl, hS⟩) ?_
  simp only [Act.put, List.setIfInBounds_toArray, List.set_cons_zero, List.set_cons_succ]
  refine st_if p1 (.int .i64 (f 5)) (by cases p1 <;> rfl) (by rfl) (fun hq j w _ hS => by rw [op_load_int rfl (gd_pos hq) (hS.cell b1 f s (by simp) 5 (by decide))]; exact ⟨rfl, hS⟩) ?_
  simp only [Act.put, List.setIfInBounds_toArray, List.set_cons_zero, List.set_cons_succ]
  refine st_if p1 (.bool p2) (by cases p1 <;> rfl) (by rfl) (fun hq j w _ hS => by rw [op_call1 rfl rfl (gd_pos hq) cf_id]; exact (c2H.out w).mono fun e w' h => by obtain ⟨rfl, rfl⟩ := h; exact ⟨rfl, hS⟩) ?_
  simp only [Act.put, List.setIfInBounds_toArray, List.set_cons_zero, List.set_cons_succ]
  refine st_val (.bool q2) (by rfl) (by rfl) (fun w => op_pick rfl rfl rfl rfl (by rw [hq2H.out]; cases p1 <;> rfl)) ?_
  simp only [Act.put, List.setIfInBounds_toArray, List.set_cons_zero, List.set_cons_succ]
  refine st_val (.bool q2) (by rfl) (by rfl) (fun w => rfl) ?_
  simp only [Act.put, List.setIfInBounds_toArray, List.set_cons_zero, List.set_cons_succ]
  refine st_if q2 (.pointer (some ⟨b1, 6, none⟩)) (by cases q2 <;> rfl) (by rfl) (fun hq j w _ hS => by rw [op_fa_6 rfl rfl]; exact ⟨rfl, hS⟩) ?_
  simp only [Act.put, List.setIfInBounds_toArray, List.set_cons_zero, List.set_cons_succ]
  refine st_if q2 (.int .i64 (f 6)) (by cases q2 <;> rfl) (by rfl) (fun hq j w _ hS => by rw [op_load_int rfl (gd_pos hq) (hS.cell b1 f s (by simp) 6 (by decide))]; exact ⟨rfl, hS⟩) ?_
  simp only [Act.put, List.setIfInBounds_toArray, List.set_cons_zero, List.set_cons_succ]
  refine st_if q2 (.bool p3) (by cases q2 <;> rfl) (by rfl) (fun hq j w _ hS => by rw [op_call1 rfl rfl (gd_pos hq) cf_id]; exact (c3H.out w).mono fun e w' h => by obtain ⟨rfl, rfl⟩ := h; exact ⟨rfl, hS⟩) ?_
  simp only [Act.put, List.setIfInBounds_toArray, List.set_cons_zero, List.set_cons_succ]
  refine st_val (.bool q3) (by rfl) (by rfl) (fun w => op_pick rfl rfl rfl rfl (by rw [hq3H.out]; cases q2 <;> rfl)) ?_
  simp only [Act.put, List.setIfInBounds_toArray, List.set_cons_zero, List.set_cons_succ]
  refine st_val (.bool q3) (by rfl) (by rfl) (fun w => rfl) ?_
  simp only [Act.put, List.setIfInBounds_toArray, List.set_cons_zero, List.set_cons_succ]
  refine st_if q3 (.pointer (some ⟨b1, 7, none⟩)) (by cases q3 <;> rfl) (by rfl) (fun hq j w _ hS => by rw [op_fa_7 rfl rfl]; exact ⟨rfl, hS⟩) ?_
  simp only [Act.put, List.setIfInBounds_toArray, List.set_cons_zero, List.set_cons_succ]
  refine st_if q3 (.int .i64 (f 7)) (by cases q3 <;> rfl) (by rfl) (fun hq j w _ hS => by rw [op_load_int rfl (gd_pos hq) (hS.cell b1 f s (by simp) 7 (by decide))]; exact ⟨rfl, hS⟩) ?_
  simp only [Act.put, List.setIfInBounds_toArray, List.set_cons_zero, List.set_cons_succ]
  refine st_if q3 (.bool p4) (by cases q3 <;> rfl) (by rfl) (fun hq j w _ hS => by rw [op_call1 rfl rfl (gd_pos hq) cf_id]; exact (c4H.out w).mono fun e w' h => by obtain ⟨rfl, rfl⟩ := h; exact ⟨rfl, hS⟩) ?_
  simp only [Act.put, List.setIfInBounds_toArray, List.set_cons_zero, List.set_cons_succ]
  refine st_val (.bool q4) (by rfl) (by rfl) (fun w => op_pick rfl rfl rfl rfl (by rw [hq4H.out]; cases q3 <;> rfl)) ?_
  simp only [Act.put, List.setIfInBounds_toArray, List.set_cons_zero, List.set_cons_succ]
  refine st_val (.bool q4) (by rfl) (by rfl) (fun w => rfl) ?_
  simp only [Act.put, List.setIfInBounds_toArray, List.set_cons_zero, List.set_cons_succ]
  refine st_if q4 (.pointer (some ⟨b1, 8, none⟩)) (by cases q4 <;> rfl) (by rfl) (fun hq j w _ hS => by rw [op_fa_8 rfl rfl]; exact ⟨rfl, hS⟩) ?_
  simp only [Act.put, List.setIfInBounds_toArray, List.set_cons_zero, List.set_cons_succ]
  refine st_if q4 (.int .i64 (f 8)) (by cases q4 <;> rfl) (by rfl) (fun hq j w _ hS => by rw [op_load_int rfl (gd_pos hq) (hS.cell b1 f s (by simp) 8 (by decide))]; exact ⟨rfl, hS⟩) ?_
  simp only [Act.put, List.setIfInBounds_toArray, List.set_cons_zero, List.set_cons_succ]
  refine st_if q4 (.bool p5) (by cases q4 <;> rfl) (by rfl) (fun hq j w _ hS => by rw [op_call1 rfl rfl (gd_pos hq) cf_territory]; exact (c5H.out w).mono fun e w' h => by obtain ⟨rfl, rfl⟩ := h; exact ⟨rfl, hS⟩) ?_
  simp only [Act.put, List.setIfInBounds_toArray, List.set_cons_zero, List.set_cons_succ]
  refine st_val (.bool q5) (by rfl) (by rfl) (fun w => op_pick rfl rfl rfl rfl (by rw [hq5H.out]; cases q4 <;> rfl)) ?_
  simp only [Act.put, List.setIfInBounds_toArray, List.set_cons_zero, List.set_cons_succ]
  refine st_val (.bool q5) (by rfl) (by rfl) (fun w => rfl) ?_
  simp only [Act.put, List.setIfInBounds_toArray, List.set_cons_zero, List.set_cons_succ]
  refine st_if q5 (.pointer (some ⟨b1, 4, none⟩)) (by cases q5 <;> rfl) (by rfl) (fun hq j w _ hS => by rw [op_fa_4 rfl rfl]; exact ⟨rfl, hS⟩) ?_
  simp only [Act.put, List.setIfInBounds_toArray, List.set_cons_zero, List.set_cons_succ]
  refine st_if q5 (.int .i64 (f 4)) (by cases q5 <;> rfl) (by rfl) (fun hq j w _ hS => by rw [op_load_int rfl (gd_pos hq) (hS.cell b1 f s (by simp) 4 (by decide))]; exact ⟨rfl, hS⟩) ?_
  simp only [Act.put, List.setIfInBounds_toArray, List.set_cons_zero, List.set_cons_succ]
  refine st_if q5 (.bool p6) (by cases q5 <;> rfl) (by rfl) (fun hq j w _ hS => by rw [op_call3 rfl rfl (gd_pos hq) rfl rfl cf_within]; exact (c6H.out w).mono fun e w' h => by obtain ⟨rfl, rfl⟩ := h; exact ⟨rfl, hS⟩) ?_
  simp only [Act.put, List.setIfInBounds_toArray, List.set_cons_zero, List.set_cons_succ]
  refine st_val (.bool q6) (by rfl) (by rfl) (fun w => op_pick rfl rfl rfl rfl (by rw [hq6H.out]; cases q5 <;> rfl)) ?_
  simp only [Act.put, List.setIfInBounds_toArray, List.set_cons_zero, List.set_cons_succ]
  refine st_val (.bool q6) (by rfl) (by rfl) (fun w => rfl) ?_
  simp only [Act.put, List.setIfInBounds_toArray, List.set_cons_zero, List.set_cons_succ]
  refine st_if q6 (.pointer (some ⟨b1, 13, none⟩)) (by cases q6 <;> rfl) (by rfl) (fun hq j w _ hS => by rw [op_fa_13 rfl rfl]; exact ⟨rfl, hS⟩) ?_
  simp only [Act.put, List.setIfInBounds_toArray, List.set_cons_zero, List.set_cons_succ]
  refine st_if q6 (.int .i64 (f 13)) (by cases q6 <;> rfl) (by rfl) (fun hq j w _ hS => by rw [op_load_int rfl (gd_pos hq) (hS.cell b1 f s (by simp) 13 (by decide))]; exact ⟨rfl, hS⟩) ?_
  simp only [Act.put, List.setIfInBounds_toArray, List.set_cons_zero, List.set_cons_succ]
  refine st_if q6 (.bool p7) (by cases q6 <;> rfl) (by rfl) (fun hq j w _ hS => by rw [op_call3 rfl rfl (gd_pos hq) rfl rfl cf_within]; exact (c7H.out w).mono fun e w' h => by obtain ⟨rfl, rfl⟩ := h; exact ⟨rfl, hS⟩) ?_
  simp only [Act.put, List.setIfInBounds_toArray, List.set_cons_zero, List.set_cons_succ]
  refine st_val (.bool q7) (by rfl) (by rfl) (fun w => op_pick rfl rfl rfl rfl (by rw [hq7H.out]; cases q6 <;> rfl)) ?_
  simp only [Act.put, List.setIfInBounds_toArray, List.set_cons_zero, List.set_cons_succ]
  refine st_val (.bool q7) (by rfl) (by rfl) (fun w => rfl) ?_
  simp only [Act.put, List.setIfInBounds_toArray, List.set_cons_zero, List.set_cons_succ]
  refine st_if q7 (.pointer (some ⟨b1, 16, none⟩)) (by cases q7 <;> rfl) (by rfl) (fun hq j w _ hS => by rw [op_fa_16 rfl rfl]; exact ⟨rfl, hS⟩) ?_
  simp only [Act.put, List.setIfInBounds_toArray, List.set_cons_zero, List.set_cons_succ]
  refine st_if q7 (.int .i64 (f 16)) (by cases q7 <;> rfl) (by rfl) (fun hq j w _ hS => by rw [op_load_int rfl (gd_pos hq) (hS.cell b1 f s (by simp) 16 (by decide))]; exact ⟨rfl, hS⟩) ?_
  simp only [Act.put, List.setIfInBounds_toArray, List.set_cons_zero, List.set_cons_succ]
  refine st_if q7 (.bool p8) (by cases q7 <;> rfl) (by rfl) (fun hq j w _ hS => by rw [op_call3 rfl rfl (gd_pos hq) rfl rfl cf_within]; exact (c8H.out w).mono fun e w' h => by obtain ⟨rfl, rfl⟩ := h; exact ⟨rfl, hS⟩) ?_
  simp only [Act.put, List.setIfInBounds_toArray, List.set_cons_zero, List.set_cons_succ]
  refine st_val (.bool q8) (by rfl) (by rfl) (fun w => op_pick rfl rfl rfl rfl (by rw [hq8H.out]; cases q7 <;> rfl)) ?_
  simp only [Act.put, List.setIfInBounds_toArray, List.set_cons_zero, List.set_cons_succ]
  refine st_step 0 undef (by rfl) (by rfl) (by decide +kernel) (fun w hS => by rw [op_store_fact rfl rfl rfl (hS.store b3 RW.zeroF (RW.gst (RW.yf f) [(1, f 1), (5, f 5), (6, f 6), (7, f 7), (8, f 8), (4, f 4), (13, f 13), (16, f 16)] 8) ⟨#[]⟩ ⟨#[]⟩ (by simp))]; exact ⟨rfl, hS.put b3 RW.zeroF (RW.gst (RW.yf f) [(1, f 1), (5, f 5), (6, f 6), (7, f 7), (8, f 8), (4, f 4), (13, f 13), (16, f 16)] 8) ⟨#[]⟩ ⟨#[]⟩ (by simp) hle3.out _ hn3.out⟩) ?_
  simp only [Act.put]
  refine st_val (.bool q8) (by rfl) (by rfl) (fun w => rfl) ?_
  simp only [Act.put, List.setIfInBounds_toArray, List.set_cons_zero, List.set_cons_succ]
  refine st_nil ?_
  intro W9 hG9
  replace hG9 : FRows ((b3, RW.gst (RW.yf f) [(1, f 1), (5, f 5), (6, f 6), (7, f 7), (8, f 8), (4, f 4), (13, f 13), (16, f 16)] 8, ⟨#[]⟩) :: [(b2, RW.gst (RW.yf f) [(1, f 1), (5, f 5), (6, f 6), (7, f 7), (8, f 8), (4, f 4), (13, f 13), (16, f 16)] 8, ⟨#[]⟩), (b1, f, s)]) w W9 := hG9
  go_wp2_with fail
  refine bodyPost_ret (fields_results _ _ b3 (RW.fcells (RW.gst (RW.yf f) [(1, f 1), (5, f 5), (6, f 6), (7, f 7), (8, f 8), (4, f 4), (13, f 13), (16, f 16)] 8) ⟨#[]⟩) _ rfl rfl rfl (hG9.rows (b3, RW.gst (RW.yf f) [(1, f 1), (5, f 5), (6, f 6), (7, f 7), (8, f 8), (4, f 4), (13, f 13), (16, f 16)] 8, ⟨#[]⟩) (by simp))) rfl ⟨rfl, hG9.below⟩
set_option maxRecDepth 100000 in
set_option maxHeartbeats 8000000 in
theorem rfields2 (f : Nat → Int) (s : ByteArray) (h0 : f 0 = 2) (w : World) :
    Calls Tryz.prog 61 #[.agg (RW.fcells f s)] w fun e w' => e = .returned (.tuple #[.agg (RW.fcells (RW.gst (RW.yf f) [(6, f 6), (1, f 1), (16, f 16)] 3) ⟨#[]⟩), .bool ((decide (1 ≤ f 6 ∧ f 6 ≤ 1000000) && decide (1 ≤ f 1 ∧ f 1 ≤ 1000000)) && decide (1 ≤ f 16 ∧ f 16 ≤ 3))]) ∧ Below w.heap.size w w' := by
  obtain ⟨p1, hp1⟩ : ∃ p, p = decide (1 ≤ f 6 ∧ f 6 ≤ 1000000) := ⟨_, rfl⟩
  have c1 : ∀ W, Calls Tryz.prog 87 #[.int .i64 (f 6)] W fun e w' => e = .returned (.bool p1) ∧ W = w' := fun W => by rw [hp1]; exact rid_any (f 6) W
  obtain ⟨p2, hp2⟩ : ∃ p, p = decide (1 ≤ f 1 ∧ f 1 ≤ 1000000) := ⟨_, rfl⟩
  have c2 : ∀ W, Calls Tryz.prog 87 #[.int .i64 (f 1)] W fun e w' => e = .returned (.bool p2) ∧ W = w' := fun W => by rw [hp2]; exact rid_any (f 1) W
  obtain ⟨p3, hp3⟩ : ∃ p, p = decide (1 ≤ f 16 ∧ f 16 ≤ 3) := ⟨_, rfl⟩
  have c3 : ∀ W, Calls Tryz.prog 62 #[.int .i64 (f 16), .int .i64 1, .int .i64 3] W fun e w' => e = .returned (.bool p3) ∧ W = w' := fun W => by rw [hp3]; exact rwithin_any (f 16) 1 3 W
  rw [← hp1, ← hp2, ← hp3]
  obtain ⟨q2, hq2⟩ : ∃ q, q = (p1 && p2) := ⟨_, rfl⟩
  rw [← hq2]
  obtain ⟨q3, hq3⟩ : ∃ q, q = (q2 && p3) := ⟨_, rfl⟩
  rw [← hq3]
  have c1H := hide c1
  clear c1
  have hp1H := hide hp1
  clear hp1
  have c2H := hide c2
  clear c2
  have hp2H := hide hp2
  clear hp2
  have hq2H := hide hq2
  clear hq2
  have c3H := hide c3
  clear c3
  have hp3H := hide hp3
  clear hp3
  have hq3H := hide hq3
  clear hq3
  obtain ⟨cs, hcs⟩ : ∃ cs, cs = RW.fcells f s := ⟨_, rfl⟩
  rw [← hcs]
  have hcsH := hide hcs; have h0H := hide h0
  clear hcs h0
  have hiY := fact_info (RW.yf f) ⟨#[]⟩
  go_enter Tryz.func61, Tryz.ntmps61
  go_upto_region 1 with fail
  rw [← fzero]
  obtain ⟨b1, hb1⟩ : ∃ b, b = w.heap.size := ⟨_, rfl⟩
  obtain ⟨b3, hb3⟩ : ∃ b, b = w.heap.size + 1 := ⟨_, rfl⟩
  have hR := (FRows.new (FRows.nil (Below.refl w.heap.size w)) f s).new RW.zeroF ⟨#[]⟩
  rw [show (w.alloc (.cells (RW.fcells f s) 38)).heap.size = b3 by rw [hb3]; simp, ← hcsH.out, ← hb1] at hR
  rw [← hb1] at ⊢
  rw [show b1 + 1 = b3 by omega]
  have hle3 := hide (show w.heap.size ≤ b3 by omega)
  have hb13 := hide (show b1 ≠ b3 by omega)
  refine gen_world (FRows [(b1, f, s), (b3, RW.zeroF, ⟨#[]⟩)] w) (hR.sub (by simp)) ?_
  intro W0 hF0
  clear hR hb1 hb3
  have c0 := hF0.cell b1 f s (by simp) 0 (by decide)
  have c2 := hF0.cell b1 f s (by simp) 2 (by decide)
  go_upto_region 2 with (refine wpList_store_new rfl 38 (.tmp 4) (.tmp 9) rfl (RW.fcells (RW.yf f) ⟨#[]⟩) rfl rfl 38 _ hiY rfl (fcells_one _ _) ?_)
  clear c0 c2 hiY
  have hR := hF0.new (RW.yf f) ⟨#[]⟩
  have hl1 := hF0.lt (b1, f, s) (by simp)
  have hl3 := hF0.lt (b3, RW.zeroF, ⟨#[]⟩) (by simp)
  have hl0 := hF0.below.size
  obtain ⟨b2, hb2⟩ : ∃ b, b = W0.heap.size := ⟨_, rfl⟩
  rw [← hb2] at hR hl1 hl3 hl0 ⊢
  have hle2 := hide (show w.heap.size ≤ b2 by omega)
  have hbbH := hide (show b1 ≠ b2 ∧ b1 ≠ b3 ∧ b2 ≠ b3 by have := hb13.out; simp at hl1 hl3; omega)
  have hne := hide (show ∀ x ∈ [(b1, f, s), (b3, RW.zeroF, (⟨#[]⟩ : ByteArray))], x.1 ≠ b2 by have := hbbH.out; simp; omega)
  refine gen_world (FRows [(b2, RW.yf f, ⟨#[]⟩), (b1, f, s), (b3, RW.zeroF, ⟨#[]⟩)] w) hR ?_
  clear hR hb2 hl1 hl3 hl0 hF0
  intro W hF
  have c0 := hF.cell b1 f s (by simp) 0 (by decide)
  rw [h0H.out] at c0
  go_upto_region 8 with fail
  refine wp_region_staged (fun j => FRows ((b2, (match j with | 0 => RW.gst (RW.yf f) [(6, f 6), (1, f 1), (16, f 16)] 0 | 1 => RW.gst (RW.yf f) [(6, f 6), (1, f 1), (16, f 16)] 1 | 2 => RW.gst (RW.yf f) [(6, f 6), (1, f 1), (16, f 16)] 2 | _ => RW.gst (RW.yf f) [(6, f 6), (1, f 1), (16, f 16)] 3), (match j with | 0 => ⟨#[]⟩ | 1 => ⟨#[]⟩ | 2 => ⟨#[]⟩ | _ => ⟨#[]⟩)) :: [(b1, f, s), (b3, RW.zeroF, ⟨#[]⟩)]) w) [7, 9, 11] (by kernel_rfl) (by kernel_rfl) (by rfl) hF.drew ?_
  clear hF
  refine st_val (.pointer (some ⟨b1, 6, none⟩)) (by rfl) (by rfl) (fun w => op_fa_6 rfl rfl) ?_
  simp only [Act.put, List.setIfInBounds_toArray, List.set_cons_zero, List.set_cons_succ]
  refine st_op (.int .i64 (f 6)) (by rfl) (by rfl) (fun j w _ hS => by rw [op_load_int rfl rfl (hS.cell b1 f s (by simp) 6 (by decide))]; exact ⟨rfl, hS⟩) ?_
  simp only [Act.put, List.setIfInBounds_toArray, List.set_cons_zero, List.set_cons_succ]
  refine st_val (.pointer (some ⟨b1, 1, none⟩)) (by rfl) (by rfl) (fun w => op_fa_1 rfl rfl) ?_
  simp only [Act.put, List.setIfInBounds_toArray, List.set_cons_zero, List.set_cons_succ]
  refine st_op (.int .i64 (f 1)) (by rfl) (by rfl) (fun j w _ hS => by rw [op_load_int rfl rfl (hS.cell b1 f s (by simp) 1 (by decide))]; exact ⟨rfl, hS⟩) ?_
  simp only [Act.put, List.setIfInBounds_toArray, List.set_cons_zero, List.set_cons_succ]
  refine st_val (.pointer (some ⟨b1, 16, none⟩)) (by rfl) (by rfl) (fun w => op_fa_16 rfl rfl) ?_
  simp only [Act.put, List.setIfInBounds_toArray, List.set_cons_zero, List.set_cons_succ]
  refine st_op (.int .i64 (f 16)) (by rfl) (by rfl) (fun j w _ hS => by rw [op_load_int rfl rfl (hS.cell b1 f s (by simp) 16 (by decide))]; exact ⟨rfl, hS⟩) ?_
  simp only [Act.put, List.setIfInBounds_toArray, List.set_cons_zero, List.set_cons_succ]
  refine st_val (.pointer (some ⟨b2, 6, none⟩)) (by rfl) (by rfl) (fun w => op_fa_6 rfl rfl) ?_
  simp only [Act.put, List.setIfInBounds_toArray, List.set_cons_zero, List.set_cons_succ]
  refine st_step 0 undef (by rfl) (by rfl) (by decide +kernel) (fun w hS => by rw [op_store_int rfl rfl rfl (hS.cell b2 (RW.gst (RW.yf f) [(6, f 6), (1, f 1), (16, f 16)] 0) ⟨#[]⟩ (by simp) 6 (by decide)) (hS.unfrozen b2 (RW.gst (RW.yf f) [(6, f 6), (1, f 1), (16, f 16)] 0) ⟨#[]⟩ (by simp) 6)]; exact ⟨rfl, hS.set hle2.out hne.out 6 (by decide) (f 6)⟩) ?_
  simp only [Act.put]
  refine st_val (.pointer (some ⟨b2, 1, none⟩)) (by rfl) (by rfl) (fun w => op_fa_1 rfl rfl) ?_
  simp only [Act.put, List.setIfInBounds_toArray, List.set_cons_zero, List.set_cons_succ]
  refine st_step 1 undef (by rfl) (by rfl) (by decide +kernel) (fun w hS => by rw [op_store_int rfl rfl rfl (hS.cell b2 (RW.gst (RW.yf f) [(6, f 6), (1, f 1), (16, f 16)] 1) ⟨#[]⟩ (by simp) 1 (by decide)) (hS.unfrozen b2 (RW.gst (RW.yf f) [(6, f 6), (1, f 1), (16, f 16)] 1) ⟨#[]⟩ (by simp) 1)]; exact ⟨rfl, hS.set hle2.out hne.out 1 (by decide) (f 1)⟩) ?_
  simp only [Act.put]
  refine st_val (.pointer (some ⟨b2, 16, none⟩)) (by rfl) (by rfl) (fun w => op_fa_16 rfl rfl) ?_
  simp only [Act.put, List.setIfInBounds_toArray, List.set_cons_zero, List.set_cons_succ]
  refine st_step 2 undef (by rfl) (by rfl) (by decide +kernel) (fun w hS => by rw [op_store_int rfl rfl rfl (hS.cell b2 (RW.gst (RW.yf f) [(6, f 6), (1, f 1), (16, f 16)] 2) ⟨#[]⟩ (by simp) 16 (by decide)) (hS.unfrozen b2 (RW.gst (RW.yf f) [(6, f 6), (1, f 1), (16, f 16)] 2) ⟨#[]⟩ (by simp) 16)]; exact ⟨rfl, hS.set hle2.out hne.out 16 (by decide) (f 16)⟩) ?_
  simp only [Act.put]
  refine st_nil ?_
  intro W1 hG1
  replace hG1 : FRows ((b2, RW.gst (RW.yf f) [(6, f 6), (1, f 1), (16, f 16)] 3, ⟨#[]⟩) :: [(b1, f, s), (b3, RW.zeroF, ⟨#[]⟩)]) w W1 := hG1
  go_upto_region 9 with fail
  refine wp_region_staged (fun j => FRows ((b3, (match j with | 0 => RW.zeroF | _ => RW.gst (RW.yf f) [(6, f 6), (1, f 1), (16, f 16)] 3), (match j with | 0 => ⟨#[]⟩ | _ => ⟨#[]⟩)) :: [(b2, RW.gst (RW.yf f) [(6, f 6), (1, f 1), (16, f 16)] 3, ⟨#[]⟩), (b1, f, s)]) w) [14] (by kernel_rfl) (by kernel_rfl) (by rfl) (hG1.sub (l' := (b3, RW.zeroF, ⟨#[]⟩) :: [(b2, RW.gst (RW.yf f) [(6, f 6), (1, f 1), (16, f 16)] 3, ⟨#[]⟩), (b1, f, s)]) (by simp)).drew ?_
  clear hG1
  have hn3 := hide (show ∀ x ∈ (b3, RW.gst (RW.yf f) [(6, f 6), (1, f 1), (16, f 16)] 3, ⟨#[]⟩) :: [(b2, RW.gst (RW.yf f) [(6, f 6), (1, f 1), (16, f 16)] 3, ⟨#[]⟩), (b1, f, s)], x = (b3, RW.gst (RW.yf f) [(6, f 6), (1, f 1), (16, f 16)] 3, ⟨#[]⟩) ∨ (x ∈ (b3, RW.zeroF, (⟨#[]⟩ : ByteArray)) :: [(b2, RW.gst (RW.yf f) [(6, f 6), (1, f 1), (16, f 16)] 3, ⟨#[]⟩), (b1, f, s)] ∧ x.1 ≠ b3) by have := hbbH.out; simp; omega)
  refine st_op (.agg (RW.fcells (RW.gst (RW.yf f) [(6, f 6), (1, f 1), (16, f 16)] 3) ⟨#[]⟩)) (by rfl) (by rfl) (fun j w _ hS => by rw [op_load_fact rfl rfl (hS.load b2 (RW.gst (RW.yf f) [(6, f 6), (1, f 1), (16, f 16)] 3) ⟨#[]⟩ (by simp))]; exact ⟨rfl, hS⟩) ?_
  simp only [Act.put, List.setIfInBounds_toArray, List.set_cons_zero, List.set_cons_succ]
  refine st_op (.pointer (some ⟨b1, 6, none⟩)) (by rfl) (by rfl) (fun j w _ hS => by rw [op_fa_6 rfl rfl]; exact ⟨rfl, hS⟩) ?_
  simp only [Act.put, List.setIfInBounds_toArray, List.set_cons_zero, List.set_cons_succ]
  refine st_op (.int .i64 (f 6)) (by rfl) (by rfl) (fun j w _ hS => by rw [op_load_int rfl rfl (hS.cell b1 f s (by simp) 6 (by decide))]; exact ⟨rfl, hS⟩) ?_
  simp only [Act.put, List.setIfInBounds_toArray, List.set_cons_zero, List.set_cons_succ]
  refine st_op (.bool p1) (by rfl) (by rfl) (fun j w _ hS => by rw [op_call1 rfl rfl rfl cf_id]; exact (c1H.out w).mono fun e w' h => by obtain ⟨rfl, rfl⟩ := h; exact ⟨rfl, hS⟩) ?_
  simp only [Act.put, List.setIfInBounds_toArray, List.set_cons_zero, List.set_cons_succ]
  refine st_val (.bool p1) (by rfl) (by rfl) (fun w => rfl) ?_
  simp only [Act.put, List.setIfInBounds_toArray, List.set_cons_zero, List.set_cons_succ]
  refine st_if p1 (.pointer (some ⟨b1, 1, none⟩)) (by cases p1 <;> rfl) (by rfl) (fun hq j w _ hS => by rw [op_fa_1 rfl rfl]; exact ⟨rfl, hS⟩) ?_
  simp only [Act.put, List.setIfInBounds_toArray, List.set_cons_zero, List.set_cons_succ]
  refine st_if p1 (.int .i64 (f 1)) (by cases p1 <;> rfl) (by rfl) (fun hq j w _ hS => by rw [op_load_int rfl (gd_pos hq) (hS.cell b1 f s (by simp) 1 (by decide))]; exact ⟨rfl, hS⟩) ?_
  simp only [Act.put, List.setIfInBounds_toArray, List.set_cons_zero, List.set_cons_succ]
  refine st_if p1 (.bool p2) (by cases p1 <;> rfl) (by rfl) (fun hq j w _ hS => by rw [op_call1 rfl rfl (gd_pos hq) cf_id]; exact (c2H.out w).mono fun e w' h => by obtain ⟨rfl, rfl⟩ := h; exact ⟨rfl, hS⟩) ?_
  simp only [Act.put, List.setIfInBounds_toArray, List.set_cons_zero, List.set_cons_succ]
  refine st_val (.bool q2) (by rfl) (by rfl) (fun w => op_pick rfl rfl rfl rfl (by rw [hq2H.out]; cases p1 <;> rfl)) ?_
  simp only [Act.put, List.setIfInBounds_toArray, List.set_cons_zero, List.set_cons_succ]
  refine st_val (.bool q2) (by rfl) (by rfl) (fun w => rfl) ?_
  simp only [Act.put, List.setIfInBounds_toArray, List.set_cons_zero, List.set_cons_succ]
  refine st_if q2 (.pointer (some ⟨b1, 16, none⟩)) (by cases q2 <;> rfl) (by rfl) (fun hq j w _ hS => by rw [op_fa_16 rfl rfl]; exact ⟨rfl, hS⟩) ?_
  simp only [Act.put, List.setIfInBounds_toArray, List.set_cons_zero, List.set_cons_succ]
  refine st_if q2 (.int .i64 (f 16)) (by cases q2 <;> rfl) (by rfl) (fun hq j w _ hS => by rw [op_load_int rfl (gd_pos hq) (hS.cell b1 f s (by simp) 16 (by decide))]; exact ⟨rfl, hS⟩) ?_
  simp only [Act.put, List.setIfInBounds_toArray, List.set_cons_zero, List.set_cons_succ]
  refine st_if q2 (.bool p3) (by cases q2 <;> rfl) (by rfl) (fun hq j w _ hS => by rw [op_call3 rfl rfl (gd_pos hq) rfl rfl cf_within]; exact (c3H.out w).mono fun e w' h => by obtain ⟨rfl, rfl⟩ := h; exact ⟨rfl, hS⟩) ?_
  simp only [Act.put, List.setIfInBounds_toArray, List.set_cons_zero, List.set_cons_succ]
  refine st_val (.bool q3) (by rfl) (by rfl) (fun w => op_pick rfl rfl rfl rfl (by rw [hq3H.out]; cases q2 <;> rfl)) ?_
  simp only [Act.put, List.setIfInBounds_toArray, List.set_cons_zero, List.set_cons_succ]
  refine st_step 0 undef (by rfl) (by rfl) (by decide +kernel) (fun w hS => by rw [op_store_fact rfl rfl rfl (hS.store b3 RW.zeroF (RW.gst (RW.yf f) [(6, f 6), (1, f 1), (16, f 16)] 3) ⟨#[]⟩ ⟨#[]⟩ (by simp))]; exact ⟨rfl, hS.put b3 RW.zeroF (RW.gst (RW.yf f) [(6, f 6), (1, f 1), (16, f 16)] 3) ⟨#[]⟩ ⟨#[]⟩ (by simp) hle3.out _ hn3.out⟩) ?_
  simp only [Act.put]
  refine st_val (.bool q3) (by rfl) (by rfl) (fun w => rfl) ?_
  simp only [Act.put, List.setIfInBounds_toArray, List.set_cons_zero, List.set_cons_succ]
  refine st_nil ?_
  intro W9 hG9
  replace hG9 : FRows ((b3, RW.gst (RW.yf f) [(6, f 6), (1, f 1), (16, f 16)] 3, ⟨#[]⟩) :: [(b2, RW.gst (RW.yf f) [(6, f 6), (1, f 1), (16, f 16)] 3, ⟨#[]⟩), (b1, f, s)]) w W9 := hG9
  go_wp2_with fail
  refine bodyPost_ret (fields_results _ _ b3 (RW.fcells (RW.gst (RW.yf f) [(6, f 6), (1, f 1), (16, f 16)] 3) ⟨#[]⟩) _ rfl rfl rfl (hG9.rows (b3, RW.gst (RW.yf f) [(6, f 6), (1, f 1), (16, f 16)] 3, ⟨#[]⟩) (by simp))) rfl ⟨rfl, hG9.below⟩
set_option maxRecDepth 100000 in
set_option maxHeartbeats 8000000 in
theorem rfields3 (f : Nat → Int) (s : ByteArray) (h0 : f 0 = 3) (w : World) :
    Calls Tryz.prog 61 #[.agg (RW.fcells f s)] w fun e w' => e = .returned (.tuple #[.agg (RW.fcells (RW.gst (RW.yf f) [(1, f 1), (7, f 7), (9, f 9), (10, f 10), (8, f 8), (11, f 11), (12, f 12), (14, f 14)] 8) ⟨#[]⟩), .bool ((((((((decide (1 ≤ f 1 ∧ f 1 ≤ 1000000) && decide (1 ≤ f 7 ∧ f 7 ≤ 1000000)) && decide (1 ≤ f 9 ∧ f 9 ≤ 1000000)) && decide (1 ≤ f 10 ∧ f 10 ≤ 2)) && decide (1 ≤ f 8 ∧ f 8 ≤ 255)) && decide (0 ≤ f 11)) && decide (f 11 < f 12)) && decide (f 12 ≤ 1200)) && decide (0 ≤ f 14 ∧ f 14 ≤ 1000000))]) ∧ Below w.heap.size w w' := by
  obtain ⟨p1, hp1⟩ : ∃ p, p = decide (1 ≤ f 1 ∧ f 1 ≤ 1000000) := ⟨_, rfl⟩
  have c1 : ∀ W, Calls Tryz.prog 87 #[.int .i64 (f 1)] W fun e w' => e = .returned (.bool p1) ∧ W = w' := fun W => by rw [hp1]; exact rid_any (f 1) W
  obtain ⟨p2, hp2⟩ : ∃ p, p = decide (1 ≤ f 7 ∧ f 7 ≤ 1000000) := ⟨_, rfl⟩
  have c2 : ∀ W, Calls Tryz.prog 87 #[.int .i64 (f 7)] W fun e w' => e = .returned (.bool p2) ∧ W = w' := fun W => by rw [hp2]; exact rid_any (f 7) W
  obtain ⟨p3, hp3⟩ : ∃ p, p = decide (1 ≤ f 9 ∧ f 9 ≤ 1000000) := ⟨_, rfl⟩
  have c3 : ∀ W, Calls Tryz.prog 87 #[.int .i64 (f 9)] W fun e w' => e = .returned (.bool p3) ∧ W = w' := fun W => by rw [hp3]; exact rid_any (f 9) W
  obtain ⟨p4, hp4⟩ : ∃ p, p = decide (1 ≤ f 10 ∧ f 10 ≤ 2) := ⟨_, rfl⟩
  have c4 : ∀ W, Calls Tryz.prog 62 #[.int .i64 (f 10), .int .i64 1, .int .i64 2] W fun e w' => e = .returned (.bool p4) ∧ W = w' := fun W => by rw [hp4]; exact rwithin_any (f 10) 1 2 W
  obtain ⟨p5, hp5⟩ : ∃ p, p = decide (1 ≤ f 8 ∧ f 8 ≤ 255) := ⟨_, rfl⟩
  have c5 : ∀ W, Calls Tryz.prog 62 #[.int .i64 (f 8), .int .i64 1, .int .i64 255] W fun e w' => e = .returned (.bool p5) ∧ W = w' := fun W => by rw [hp5]; exact rwithin_any (f 8) 1 255 W
  obtain ⟨p6, hp6⟩ : ∃ p, p = decide (0 ≤ f 11) := ⟨_, rfl⟩
  obtain ⟨p7, hp7⟩ : ∃ p, p = decide (f 11 < f 12) := ⟨_, rfl⟩
  obtain ⟨p8, hp8⟩ : ∃ p, p = decide (f 12 ≤ 1200) := ⟨_, rfl⟩
  obtain ⟨p9, hp9⟩ : ∃ p, p = decide (0 ≤ f 14 ∧ f 14 ≤ 1000000) := ⟨_, rfl⟩
  have c9 : ∀ W, Calls Tryz.prog 62 #[.int .i64 (f 14), .int .i64 0, .int .i64 1000000] W fun e w' => e = .returned (.bool p9) ∧ W = w' := fun W => by rw [hp9]; exact rwithin_any (f 14) 0 1000000 W
  rw [← hp1, ← hp2, ← hp3, ← hp4, ← hp5, ← hp6, ← hp7, ← hp8, ← hp9]
  obtain ⟨q2, hq2⟩ : ∃ q, q = (p1 && p2) := ⟨_, rfl⟩
  rw [← hq2]
  obtain ⟨q3, hq3⟩ : ∃ q, q = (q2 && p3) := ⟨_, rfl⟩
  rw [← hq3]
  obtain ⟨q4, hq4⟩ : ∃ q, q = (q3 && p4) := ⟨_, rfl⟩
  rw [← hq4]
  obtain ⟨q5, hq5⟩ : ∃ q, q = (q4 && p5) := ⟨_, rfl⟩
  rw [← hq5]
  obtain ⟨q6, hq6⟩ : ∃ q, q = (q5 && p6) := ⟨_, rfl⟩
  rw [← hq6]
  obtain ⟨q7, hq7⟩ : ∃ q, q = (q6 && p7) := ⟨_, rfl⟩
  rw [← hq7]
  obtain ⟨q8, hq8⟩ : ∃ q, q = (q7 && p8) := ⟨_, rfl⟩
  rw [← hq8]
  obtain ⟨q9, hq9⟩ : ∃ q, q = (q8 && p9) := ⟨_, rfl⟩
  rw [← hq9]
  have c1H := hide c1
  clear c1
  have hp1H := hide hp1
  clear hp1
  have c2H := hide c2
  clear c2
  have hp2H := hide hp2
  clear hp2
  have hq2H := hide hq2
  clear hq2
  have c3H := hide c3
  clear c3
  have hp3H := hide hp3
  clear hp3
  have hq3H := hide hq3
  clear hq3
  have c4H := hide c4
  clear c4
  have hp4H := hide hp4
  clear hp4
  have hq4H := hide hq4
  clear hq4
  have c5H := hide c5
  clear c5
  have hp5H := hide hp5
  clear hp5
  have hq5H := hide hq5
  clear hq5
  have hp6H := hide hp6
  clear hp6
  have hq6H := hide hq6
  clear hq6
  have hp7H := hide hp7
  clear hp7
  have hq7H := hide hq7
  clear hq7
  have hp8H := hide hp8
  clear hp8
  have hq8H := hide hq8
  clear hq8
  have c9H := hide c9
  clear c9
  have hp9H := hide hp9
  clear hp9
  have hq9H := hide hq9
  clear hq9
  obtain ⟨cs, hcs⟩ : ∃ cs, cs = RW.fcells f s := ⟨_, rfl⟩
  rw [← hcs]
  have hcsH := hide hcs; have h0H := hide h0
  clear hcs h0
  have hiY := fact_info (RW.yf f) ⟨#[]⟩
  go_enter Tryz.func61, Tryz.ntmps61
  go_upto_region 1 with fail
  rw [← fzero]
  obtain ⟨b1, hb1⟩ : ∃ b, b = w.heap.size := ⟨_, rfl⟩
  obtain ⟨b3, hb3⟩ : ∃ b, b = w.heap.size + 1 := ⟨_, rfl⟩
  have hR := (FRows.new (FRows.nil (Below.refl w.heap.size w)) f s).new RW.zeroF ⟨#[]⟩
  rw [show (w.alloc (.cells (RW.fcells f s) 38)).heap.size = b3 by rw [hb3]; simp, ← hcsH.out, ← hb1] at hR
  rw [← hb1] at ⊢
  rw [show b1 + 1 = b3 by omega]
  have hle3 := hide (show w.heap.size ≤ b3 by omega)
  have hb13 := hide (show b1 ≠ b3 by omega)
  refine gen_world (FRows [(b1, f, s), (b3, RW.zeroF, ⟨#[]⟩)] w) (hR.sub (by simp)) ?_
  intro W0 hF0
  clear hR hb1 hb3
  have c0 := hF0.cell b1 f s (by simp) 0 (by decide)
  have c2 := hF0.cell b1 f s (by simp) 2 (by decide)
  go_upto_region 2 with (refine wpList_store_new rfl 38 (.tmp 4) (.tmp 9) rfl (RW.fcells (RW.yf f) ⟨#[]⟩) rfl rfl 38 _ hiY rfl (fcells_one _ _) ?_)
  clear c0 c2 hiY
  have hR := hF0.new (RW.yf f) ⟨#[]⟩
  have hl1 := hF0.lt (b1, f, s) (by simp)
  have hl3 := hF0.lt (b3, RW.zeroF, ⟨#[]⟩) (by simp)
  have hl0 := hF0.below.size
  obtain ⟨b2, hb2⟩ : ∃ b, b = W0.heap.size := ⟨_, rfl⟩
  rw [← hb2] at hR hl1 hl3 hl0 ⊢
  have hle2 := hide (show w.heap.size ≤ b2 by omega)
  have hbbH := hide (show b1 ≠ b2 ∧ b1 ≠ b3 ∧ b2 ≠ b3 by have := hb13.out; simp at hl1 hl3; omega)
  have hne := hide (show ∀ x ∈ [(b1, f, s), (b3, RW.zeroF, (⟨#[]⟩ : ByteArray))], x.1 ≠ b2 by have := hbbH.out; simp; omega)
  refine gen_world (FRows [(b2, RW.yf f, ⟨#[]⟩), (b1, f, s), (b3, RW.zeroF, ⟨#[]⟩)] w) hR ?_
  clear hR hb2 hl1 hl3 hl0 hF0
  intro W hF
  have c0 := hF.cell b1 f s (by simp) 0 (by decide)
  rw [h0H.out] at c0
  go_upto_region 11 with fail
  refine wp_region_staged (fun j => FRows ((b2, (match j with | 0 => RW.gst (RW.yf f) [(1, f 1), (7, f 7), (9, f 9), (10, f 10), (8, f 8), (11, f 11), (12, f 12), (14, f 14)] 0 | 1 => RW.gst (RW.yf f) [(1, f 1), (7, f 7), (9, f 9), (10, f 10), (8, f 8), (11, f 11), (12, f 12), (14, f 14)] 1 | 2 => RW.gst (RW.yf f) [(1, f 1), (7, f 7), (9, f 9), (10, f 10), (8, f 8), (11, f 11), (12, f 12), (14, f 14)] 2 | 3 => RW.gst (RW.yf f) [(1, f 1), (7, f 7), (9, f 9), (10, f 10), (8, f 8), (11, f 11), (12, f 12), (14, f 14)] 3 | _ => RW.gst (RW.yf f) [(1, f 1), (7, f 7), (9, f 9), (10, f 10), (8, f 8), (11, f 11), (12, f 12), (14, f 14)] 4), (match j with | 0 => ⟨#[]⟩ | 1 => ⟨#[]⟩ | 2 => ⟨#[]⟩ | 3 => ⟨#[]⟩ | _ => ⟨#[]⟩)) :: [(b1, f, s), (b3, RW.zeroF, ⟨#[]⟩)]) w) [9, 11, 13, 15] (by kernel_rfl) (by kernel_rfl) (by rfl) hF.drew ?_
  clear hF
  refine st_val (.pointer (some ⟨b1, 1, none⟩)) (by rfl) (by rfl) (fun w => op_fa_1 rfl rfl) ?_
  simp only [Act.put, List.setIfInBounds_toArray, List.set_cons_zero, List.set_cons_succ]
  refine st_op (.int .i64 (f 1)) (by rfl) (by rfl) (fun j w _ hS => by rw [op_load_int rfl rfl (hS.cell b1 f s (by simp) 1 (by decide))]; exact ⟨rfl, hS⟩) ?_
  simp only [Act.put, List.setIfInBounds_toArray, List.set_cons_zero, List.set_cons_succ]
  refine st_val (.pointer (some ⟨b1, 7, none⟩)) (by rfl) (by rfl) (fun w => op_fa_7 rfl rfl) ?_
  simp only [Act.put, List.setIfInBounds_toArray, List.set_cons_zero, List.set_cons_succ]
  refine st_op (.int .i64 (f 7)) (by rfl) (by rfl) (fun j w _ hS => by rw [op_load_int rfl rfl (hS.cell b1 f s (by simp) 7 (by decide))]; exact ⟨rfl, hS⟩) ?_
  simp only [Act.put, List.setIfInBounds_toArray, List.set_cons_zero, List.set_cons_succ]
  refine st_val (.pointer (some ⟨b1, 9, none⟩)) (by rfl) (by rfl) (fun w => op_fa_9 rfl rfl) ?_
  simp only [Act.put, List.setIfInBounds_toArray, List.set_cons_zero, List.set_cons_succ]
  refine st_op (.int .i64 (f 9)) (by rfl) (by rfl) (fun j w _ hS => by rw [op_load_int rfl rfl (hS.cell b1 f s (by simp) 9 (by decide))]; exact ⟨rfl, hS⟩) ?_
  simp only [Act.put, List.setIfInBounds_toArray, List.set_cons_zero, List.set_cons_succ]
  refine st_val (.pointer (some ⟨b1, 10, none⟩)) (by rfl) (by rfl) (fun w => op_fa_10 rfl rfl) ?_
  simp only [Act.put, List.setIfInBounds_toArray, List.set_cons_zero, List.set_cons_succ]
  refine st_op (.int .i64 (f 10)) (by rfl) (by rfl) (fun j w _ hS => by rw [op_load_int rfl rfl (hS.cell b1 f s (by simp) 10 (by decide))]; exact ⟨rfl, hS⟩) ?_
  simp only [Act.put, List.setIfInBounds_toArray, List.set_cons_zero, List.set_cons_succ]
  refine st_val (.pointer (some ⟨b2, 1, none⟩)) (by rfl) (by rfl) (fun w => op_fa_1 rfl rfl) ?_
  simp only [Act.put, List.setIfInBounds_toArray, List.set_cons_zero, List.set_cons_succ]
  refine st_step 0 undef (by rfl) (by rfl) (by decide +kernel) (fun w hS => by rw [op_store_int rfl rfl rfl (hS.cell b2 (RW.gst (RW.yf f) [(1, f 1), (7, f 7), (9, f 9), (10, f 10), (8, f 8), (11, f 11), (12, f 12), (14, f 14)] 0) ⟨#[]⟩ (by simp) 1 (by decide)) (hS.unfrozen b2 (RW.gst (RW.yf f) [(1, f 1), (7, f 7), (9, f 9), (10, f 10), (8, f 8), (11, f 11), (12, f 12), (14, f 14)] 0) ⟨#[]⟩ (by simp) 1)]; exact ⟨rfl, hS.set hle2.out hne.out 1 (by decide) (f 1)⟩) ?_
  simp only [Act.put]
  refine st_val (.pointer (some ⟨b2, 7, none⟩)) (by rfl) (by rfl) (fun w => op_fa_7 rfl rfl) ?_
  simp only [Act.put, List.setIfInBounds_toArray, List.set_cons_zero, List.set_cons_succ]
  refine st_step 1 undef (by rfl) (by rfl) (by decide +kernel) (fun w hS => by rw [op_store_int rfl rfl rfl (hS.cell b2 (RW.gst (RW.yf f) [(1, f 1), (7, f 7), (9, f 9), (10, f 10), (8, f 8), (11, f 11), (12, f 12), (14, f 14)] 1) ⟨#[]⟩ (by simp) 7 (by decide)) (hS.unfrozen b2 (RW.gst (RW.yf f) [(1, f 1), (7, f 7), (9, f 9), (10, f 10), (8, f 8), (11, f 11), (12, f 12), (14, f 14)] 1) ⟨#[]⟩ (by simp) 7)]; exact ⟨rfl, hS.set hle2.out hne.out 7 (by decide) (f 7)⟩) ?_
  simp only [Act.put]
  refine st_val (.pointer (some ⟨b2, 9, none⟩)) (by rfl) (by rfl) (fun w => op_fa_9 rfl rfl) ?_
  simp only [Act.put, List.setIfInBounds_toArray, List.set_cons_zero, List.set_cons_succ]
  refine st_step 2 undef (by rfl) (by rfl) (by decide +kernel) (fun w hS => by rw [op_store_int rfl rfl rfl (hS.cell b2 (RW.gst (RW.yf f) [(1, f 1), (7, f 7), (9, f 9), (10, f 10), (8, f 8), (11, f 11), (12, f 12), (14, f 14)] 2) ⟨#[]⟩ (by simp) 9 (by decide)) (hS.unfrozen b2 (RW.gst (RW.yf f) [(1, f 1), (7, f 7), (9, f 9), (10, f 10), (8, f 8), (11, f 11), (12, f 12), (14, f 14)] 2) ⟨#[]⟩ (by simp) 9)]; exact ⟨rfl, hS.set hle2.out hne.out 9 (by decide) (f 9)⟩) ?_
  simp only [Act.put]
  refine st_val (.pointer (some ⟨b2, 10, none⟩)) (by rfl) (by rfl) (fun w => op_fa_10 rfl rfl) ?_
  simp only [Act.put, List.setIfInBounds_toArray, List.set_cons_zero, List.set_cons_succ]
  refine st_step 3 undef (by rfl) (by rfl) (by decide +kernel) (fun w hS => by rw [op_store_int rfl rfl rfl (hS.cell b2 (RW.gst (RW.yf f) [(1, f 1), (7, f 7), (9, f 9), (10, f 10), (8, f 8), (11, f 11), (12, f 12), (14, f 14)] 3) ⟨#[]⟩ (by simp) 10 (by decide)) (hS.unfrozen b2 (RW.gst (RW.yf f) [(1, f 1), (7, f 7), (9, f 9), (10, f 10), (8, f 8), (11, f 11), (12, f 12), (14, f 14)] 3) ⟨#[]⟩ (by simp) 10)]; exact ⟨rfl, hS.set hle2.out hne.out 10 (by decide) (f 10)⟩) ?_
  simp only [Act.put]
  refine st_nil ?_
  intro W1 hG1
  replace hG1 : FRows ((b2, RW.gst (RW.yf f) [(1, f 1), (7, f 7), (9, f 9), (10, f 10), (8, f 8), (11, f 11), (12, f 12), (14, f 14)] 4, ⟨#[]⟩) :: [(b1, f, s), (b3, RW.zeroF, ⟨#[]⟩)]) w W1 := hG1
  go_upto_region 12 with fail
  refine wp_region_staged (fun j => FRows ((b2, (match j with | 0 => RW.gst (RW.yf f) [(1, f 1), (7, f 7), (9, f 9), (10, f 10), (8, f 8), (11, f 11), (12, f 12), (14, f 14)] 4 | 1 => RW.gst (RW.yf f) [(1, f 1), (7, f 7), (9, f 9), (10, f 10), (8, f 8), (11, f 11), (12, f 12), (14, f 14)] 5 | 2 => RW.gst (RW.yf f) [(1, f 1), (7, f 7), (9, f 9), (10, f 10), (8, f 8), (11, f 11), (12, f 12), (14, f 14)] 6 | 3 => RW.gst (RW.yf f) [(1, f 1), (7, f 7), (9, f 9), (10, f 10), (8, f 8), (11, f 11), (12, f 12), (14, f 14)] 7 | _ => RW.gst (RW.yf f) [(1, f 1), (7, f 7), (9, f 9), (10, f 10), (8, f 8), (11, f 11), (12, f 12), (14, f 14)] 8), (match j with | 0 => ⟨#[]⟩ | 1 => ⟨#[]⟩ | 2 => ⟨#[]⟩ | 3 => ⟨#[]⟩ | _ => ⟨#[]⟩)) :: [(b1, f, s), (b3, RW.zeroF, ⟨#[]⟩)]) w) [9, 11, 13, 15] (by kernel_rfl) (by kernel_rfl) (by rfl) hG1.drew ?_
  refine st_val (.pointer (some ⟨b1, 8, none⟩)) (by rfl) (by rfl) (fun w => op_fa_8 rfl rfl) ?_
  simp only [Act.put, List.setIfInBounds_toArray, List.set_cons_zero, List.set_cons_succ]
  refine st_op (.int .i64 (f 8)) (by rfl) (by rfl) (fun j w _ hS => by rw [op_load_int rfl rfl (hS.cell b1 f s (by simp) 8 (by decide))]; exact ⟨rfl, hS⟩) ?_
  simp only [Act.put, List.setIfInBounds_toArray, List.set_cons_zero, List.set_cons_succ]
  refine st_val (.pointer (some ⟨b1, 11, none⟩)) (by rfl) (by rfl) (fun w => op_fa_11 rfl rfl) ?_
  simp only [Act.put, List.setIfInBounds_toArray, List.set_cons_zero, List.set_cons_succ]
  refine st_op (.int .i64 (f 11)) (by rfl) (by rfl) (fun j w _ hS => by rw [op_load_int rfl rfl (hS.cell b1 f s (by simp) 11 (by decide))]; exact ⟨rfl, hS⟩) ?_
  simp only [Act.put, List.setIfInBounds_toArray, List.set_cons_zero, List.set_cons_succ]
  refine st_val (.pointer (some ⟨b1, 12, none⟩)) (by rfl) (by rfl) (fun w => op_fa_12 rfl rfl) ?_
  simp only [Act.put, List.setIfInBounds_toArray, List.set_cons_zero, List.set_cons_succ]
  refine st_op (.int .i64 (f 12)) (by rfl) (by rfl) (fun j w _ hS => by rw [op_load_int rfl rfl (hS.cell b1 f s (by simp) 12 (by decide))]; exact ⟨rfl, hS⟩) ?_
  simp only [Act.put, List.setIfInBounds_toArray, List.set_cons_zero, List.set_cons_succ]
  refine st_val (.pointer (some ⟨b1, 14, none⟩)) (by rfl) (by rfl) (fun w => op_fa_14 rfl rfl) ?_
  simp only [Act.put, List.setIfInBounds_toArray, List.set_cons_zero, List.set_cons_succ]
  refine st_op (.int .i64 (f 14)) (by rfl) (by rfl) (fun j w _ hS => by rw [op_load_int rfl rfl (hS.cell b1 f s (by simp) 14 (by decide))]; exact ⟨rfl, hS⟩) ?_
  simp only [Act.put, List.setIfInBounds_toArray, List.set_cons_zero, List.set_cons_succ]
  refine st_val (.pointer (some ⟨b2, 8, none⟩)) (by rfl) (by rfl) (fun w => op_fa_8 rfl rfl) ?_
  simp only [Act.put, List.setIfInBounds_toArray, List.set_cons_zero, List.set_cons_succ]
  refine st_step 0 undef (by rfl) (by rfl) (by decide +kernel) (fun w hS => by rw [op_store_int rfl rfl rfl (hS.cell b2 (RW.gst (RW.yf f) [(1, f 1), (7, f 7), (9, f 9), (10, f 10), (8, f 8), (11, f 11), (12, f 12), (14, f 14)] 4) ⟨#[]⟩ (by simp) 8 (by decide)) (hS.unfrozen b2 (RW.gst (RW.yf f) [(1, f 1), (7, f 7), (9, f 9), (10, f 10), (8, f 8), (11, f 11), (12, f 12), (14, f 14)] 4) ⟨#[]⟩ (by simp) 8)]; exact ⟨rfl, hS.set hle2.out hne.out 8 (by decide) (f 8)⟩) ?_
  simp only [Act.put]
  refine st_val (.pointer (some ⟨b2, 11, none⟩)) (by rfl) (by rfl) (fun w => op_fa_11 rfl rfl) ?_
  simp only [Act.put, List.setIfInBounds_toArray, List.set_cons_zero, List.set_cons_succ]
  refine st_step 1 undef (by rfl) (by rfl) (by decide +kernel) (fun w hS => by rw [op_store_int rfl rfl rfl (hS.cell b2 (RW.gst (RW.yf f) [(1, f 1), (7, f 7), (9, f 9), (10, f 10), (8, f 8), (11, f 11), (12, f 12), (14, f 14)] 5) ⟨#[]⟩ (by simp) 11 (by decide)) (hS.unfrozen b2 (RW.gst (RW.yf f) [(1, f 1), (7, f 7), (9, f 9), (10, f 10), (8, f 8), (11, f 11), (12, f 12), (14, f 14)] 5) ⟨#[]⟩ (by simp) 11)]; exact ⟨rfl, hS.set hle2.out hne.out 11 (by decide) (f 11)⟩) ?_
  simp only [Act.put]
  refine st_val (.pointer (some ⟨b2, 12, none⟩)) (by rfl) (by rfl) (fun w => op_fa_12 rfl rfl) ?_
  simp only [Act.put, List.setIfInBounds_toArray, List.set_cons_zero, List.set_cons_succ]
  refine st_step 2 undef (by rfl) (by rfl) (by decide +kernel) (fun w hS => by rw [op_store_int rfl rfl rfl (hS.cell b2 (RW.gst (RW.yf f) [(1, f 1), (7, f 7), (9, f 9), (10, f 10), (8, f 8), (11, f 11), (12, f 12), (14, f 14)] 6) ⟨#[]⟩ (by simp) 12 (by decide)) (hS.unfrozen b2 (RW.gst (RW.yf f) [(1, f 1), (7, f 7), (9, f 9), (10, f 10), (8, f 8), (11, f 11), (12, f 12), (14, f 14)] 6) ⟨#[]⟩ (by simp) 12)]; exact ⟨rfl, hS.set hle2.out hne.out 12 (by decide) (f 12)⟩) ?_
  simp only [Act.put]
  refine st_val (.pointer (some ⟨b2, 14, none⟩)) (by rfl) (by rfl) (fun w => op_fa_14 rfl rfl) ?_
  simp only [Act.put, List.setIfInBounds_toArray, List.set_cons_zero, List.set_cons_succ]
  refine st_step 3 undef (by rfl) (by rfl) (by decide +kernel) (fun w hS => by rw [op_store_int rfl rfl rfl (hS.cell b2 (RW.gst (RW.yf f) [(1, f 1), (7, f 7), (9, f 9), (10, f 10), (8, f 8), (11, f 11), (12, f 12), (14, f 14)] 7) ⟨#[]⟩ (by simp) 14 (by decide)) (hS.unfrozen b2 (RW.gst (RW.yf f) [(1, f 1), (7, f 7), (9, f 9), (10, f 10), (8, f 8), (11, f 11), (12, f 12), (14, f 14)] 7) ⟨#[]⟩ (by simp) 14)]; exact ⟨rfl, hS.set hle2.out hne.out 14 (by decide) (f 14)⟩) ?_
  simp only [Act.put]
  refine st_nil ?_
  intro W2 hG2
  replace hG2 : FRows ((b2, RW.gst (RW.yf f) [(1, f 1), (7, f 7), (9, f 9), (10, f 10), (8, f 8), (11, f 11), (12, f 12), (14, f 14)] 8, ⟨#[]⟩) :: [(b1, f, s), (b3, RW.zeroF, ⟨#[]⟩)]) w W2 := hG2
  go_upto_region 13 with fail
  refine wp_region_staged (fun j => FRows ((b3, (match j with | 0 => RW.zeroF | _ => RW.gst (RW.yf f) [(1, f 1), (7, f 7), (9, f 9), (10, f 10), (8, f 8), (11, f 11), (12, f 12), (14, f 14)] 8), (match j with | 0 => ⟨#[]⟩ | _ => ⟨#[]⟩)) :: [(b2, RW.gst (RW.yf f) [(1, f 1), (7, f 7), (9, f 9), (10, f 10), (8, f 8), (11, f 11), (12, f 12), (14, f 14)] 8, ⟨#[]⟩), (b1, f, s)]) w) [46] (by kernel_rfl) (by kernel_rfl) (by rfl) (hG2.sub (l' := (b3, RW.zeroF, ⟨#[]⟩) :: [(b2, RW.gst (RW.yf f) [(1, f 1), (7, f 7), (9, f 9), (10, f 10), (8, f 8), (11, f 11), (12, f 12), (14, f 14)] 8, ⟨#[]⟩), (b1, f, s)]) (by simp)).drew ?_
  clear hG2
  have hn3 := hide (show ∀ x ∈ (b3, RW.gst (RW.yf f) [(1, f 1), (7, f 7), (9, f 9), (10, f 10), (8, f 8), (11, f 11), (12, f 12), (14, f 14)] 8, ⟨#[]⟩) :: [(b2, RW.gst (RW.yf f) [(1, f 1), (7, f 7), (9, f 9), (10, f 10), (8, f 8), (11, f 11), (12, f 12), (14, f 14)] 8, ⟨#[]⟩), (b1, f, s)], x = (b3, RW.gst (RW.yf f) [(1, f 1), (7, f 7), (9, f 9), (10, f 10), (8, f 8), (11, f 11), (12, f 12), (14, f 14)] 8, ⟨#[]⟩) ∨ (x ∈ (b3, RW.zeroF, (⟨#[]⟩ : ByteArray)) :: [(b2, RW.gst (RW.yf f) [(1, f 1), (7, f 7), (9, f 9), (10, f 10), (8, f 8), (11, f 11), (12, f 12), (14, f 14)] 8, ⟨#[]⟩), (b1, f, s)] ∧ x.1 ≠ b3) by have := hbbH.out; simp; omega)
  refine st_op (.agg (RW.fcells (RW.gst (RW.yf f) [(1, f 1), (7, f 7), (9, f 9), (10, f 10), (8, f 8), (11, f 11), (12, f 12), (14, f 14)] 8) ⟨#[]⟩)) (by rfl) (by rfl) (fun j w _ hS => by rw [op_load_fact rfl rfl (hS.load b2 (RW.gst (RW.yf f) [(1, f 1), (7, f 7), (9, f 9), (10, f 10), (8, f 8), (11, f 11), (12, f 12), (14, f 14)] 8) ⟨#[]⟩ (by simp))]; exact ⟨rfl, hS⟩) ?_
  simp only [Act.put, List.setIfInBounds_toArray, List.set_cons_zero, List.set_cons_succ]
  refine st_op (.pointer (some ⟨b1, 1, none⟩)) (by rfl) (by rfl) (fun j w _ hS => by rw [op_fa_1 rfl rfl]; exact ⟨rfl, hS⟩) ?_
  simp only [Act.put, List.setIfInBounds_toArray, List.set_cons_zero, List.set_cons_succ]
  refine st_op (.int .i64 (f 1)) (by rfl) (by rfl) (fun j w _ hS => by rw [op_load_int rfl rfl (hS.cell b1 f s (by simp) 1 (by decide))]; exact ⟨rfl, hS⟩) ?_
  simp only [Act.put, List.setIfInBounds_toArray, List.set_cons_zero, List.set_cons_succ]
  refine st_op (.bool p1) (by rfl) (by rfl) (fun j w _ hS => by rw [op_call1 rfl rfl rfl cf_id]; exact (c1H.out w).mono fun e w' h => by obtain ⟨rfl, rfl⟩ := h; exact ⟨rfl, hS⟩) ?_
  simp only [Act.put, List.setIfInBounds_toArray, List.set_cons_zero, List.set_cons_succ]
  refine st_val (.bool p1) (by rfl) (by rfl) (fun w => rfl) ?_
  simp only [Act.put, List.setIfInBounds_toArray, List.set_cons_zero, List.set_cons_succ]
  refine st_if p1 (.pointer (some ⟨b1, 7, none⟩)) (by cases p1 <;> rfl) (by rfl) (fun hq j w _ hS => by rw [op_fa_7 rfl rfl]; exact ⟨rfl, hS⟩) ?_
  simp only [Act.put, List.setIfInBounds_toArray, List.set_cons_zero, List.set_cons_succ]
  refine st_if p1 (.int .i64 (f 7)) (by cases p1 <;> rfl) (by rfl) (fun hq j w _ hS => by rw [op_load_int rfl (gd_pos hq) (hS.cell b1 f s (by simp) 7 (by decide))]; exact ⟨rfl, hS⟩) ?_
  simp only [Act.put, List.setIfInBounds_toArray, List.set_cons_zero, List.set_cons_succ]
  refine st_if p1 (.bool p2) (by cases p1 <;> rfl) (by rfl) (fun hq j w _ hS => by rw [op_call1 rfl rfl (gd_pos hq) cf_id]; exact (c2H.out w).mono fun e w' h => by obtain ⟨rfl, rfl⟩ := h; exact ⟨rfl, hS⟩) ?_
  simp only [Act.put, List.setIfInBounds_toArray, List.set_cons_zero, List.set_cons_succ]
  refine st_val (.bool q2) (by rfl) (by rfl) (fun w => op_pick rfl rfl rfl rfl (by rw [hq2H.out]; cases p1 <;> rfl)) ?_
  simp only [Act.put, List.setIfInBounds_toArray, List.set_cons_zero, List.set_cons_succ]
  refine st_val (.bool q2) (by rfl) (by rfl) (fun w => rfl) ?_
  simp only [Act.put, List.setIfInBounds_toArray, List.set_cons_zero, List.set_cons_succ]
  refine st_if q2 (.pointer (some ⟨b1, 9, none⟩)) (by cases q2 <;> rfl) (by rfl) (fun hq j w _ hS => by rw [op_fa_9 rfl rfl]; exact ⟨rfl, hS⟩) ?_
  simp only [Act.put, List.setIfInBounds_toArray, List.set_cons_zero, List.set_cons_succ]
  refine st_if q2 (.int .i64 (f 9)) (by cases q2 <;> rfl) (by rfl) (fun hq j w _ hS => by rw [op_load_int rfl (gd_pos hq) (hS.cell b1 f s (by simp) 9 (by decide))]; exact ⟨rfl, hS⟩) ?_
  simp only [Act.put, List.setIfInBounds_toArray, List.set_cons_zero, List.set_cons_succ]
  refine st_if q2 (.bool p3) (by cases q2 <;> rfl) (by rfl) (fun hq j w _ hS => by rw [op_call1 rfl rfl (gd_pos hq) cf_id]; exact (c3H.out w).mono fun e w' h => by obtain ⟨rfl, rfl⟩ := h; exact ⟨rfl, hS⟩) ?_
  simp only [Act.put, List.setIfInBounds_toArray, List.set_cons_zero, List.set_cons_succ]
  refine st_val (.bool q3) (by rfl) (by rfl) (fun w => op_pick rfl rfl rfl rfl (by rw [hq3H.out]; cases q2 <;> rfl)) ?_
  simp only [Act.put, List.setIfInBounds_toArray, List.set_cons_zero, List.set_cons_succ]
  refine st_val (.bool q3) (by rfl) (by rfl) (fun w => rfl) ?_
  simp only [Act.put, List.setIfInBounds_toArray, List.set_cons_zero, List.set_cons_succ]
  refine st_if q3 (.pointer (some ⟨b1, 10, none⟩)) (by cases q3 <;> rfl) (by rfl) (fun hq j w _ hS => by rw [op_fa_10 rfl rfl]; exact ⟨rfl, hS⟩) ?_
  simp only [Act.put, List.setIfInBounds_toArray, List.set_cons_zero, List.set_cons_succ]
  refine st_if q3 (.int .i64 (f 10)) (by cases q3 <;> rfl) (by rfl) (fun hq j w _ hS => by rw [op_load_int rfl (gd_pos hq) (hS.cell b1 f s (by simp) 10 (by decide))]; exact ⟨rfl, hS⟩) ?_
  simp only [Act.put, List.setIfInBounds_toArray, List.set_cons_zero, List.set_cons_succ]
  refine st_if q3 (.bool p4) (by cases q3 <;> rfl) (by rfl) (fun hq j w _ hS => by rw [op_call3 rfl rfl (gd_pos hq) rfl rfl cf_within]; exact (c4H.out w).mono fun e w' h => by obtain ⟨rfl, rfl⟩ := h; exact ⟨rfl, hS⟩) ?_
  simp only [Act.put, List.setIfInBounds_toArray, List.set_cons_zero, List.set_cons_succ]
  refine st_val (.bool q4) (by rfl) (by rfl) (fun w => op_pick rfl rfl rfl rfl (by rw [hq4H.out]; cases q3 <;> rfl)) ?_
  simp only [Act.put, List.setIfInBounds_toArray, List.set_cons_zero, List.set_cons_succ]
  refine st_val (.bool q4) (by rfl) (by rfl) (fun w => rfl) ?_
  simp only [Act.put, List.setIfInBounds_toArray, List.set_cons_zero, List.set_cons_succ]
  refine st_if q4 (.pointer (some ⟨b1, 8, none⟩)) (by cases q4 <;> rfl) (by rfl) (fun hq j w _ hS => by rw [op_fa_8 rfl rfl]; exact ⟨rfl, hS⟩) ?_
  simp only [Act.put, List.setIfInBounds_toArray, List.set_cons_zero, List.set_cons_succ]
  refine st_if q4 (.int .i64 (f 8)) (by cases q4 <;> rfl) (by rfl) (fun hq j w _ hS => by rw [op_load_int rfl (gd_pos hq) (hS.cell b1 f s (by simp) 8 (by decide))]; exact ⟨rfl, hS⟩) ?_
  simp only [Act.put, List.setIfInBounds_toArray, List.set_cons_zero, List.set_cons_succ]
  refine st_if q4 (.bool p5) (by cases q4 <;> rfl) (by rfl) (fun hq j w _ hS => by rw [op_call3 rfl rfl (gd_pos hq) rfl rfl cf_within]; exact (c5H.out w).mono fun e w' h => by obtain ⟨rfl, rfl⟩ := h; exact ⟨rfl, hS⟩) ?_
  simp only [Act.put, List.setIfInBounds_toArray, List.set_cons_zero, List.set_cons_succ]
  refine st_val (.bool q5) (by rfl) (by rfl) (fun w => op_pick rfl rfl rfl rfl (by rw [hq5H.out]; cases q4 <;> rfl)) ?_
  simp only [Act.put, List.setIfInBounds_toArray, List.set_cons_zero, List.set_cons_succ]
  refine st_val (.bool q5) (by rfl) (by rfl) (fun w => rfl) ?_
  simp only [Act.put, List.setIfInBounds_toArray, List.set_cons_zero, List.set_cons_succ]
  refine st_if q5 (.pointer (some ⟨b1, 11, none⟩)) (by cases q5 <;> rfl) (by rfl) (fun hq j w _ hS => by rw [op_fa_11 rfl rfl]; exact ⟨rfl, hS⟩) ?_
  simp only [Act.put, List.setIfInBounds_toArray, List.set_cons_zero, List.set_cons_succ]
  refine st_if q5 (.int .i64 (f 11)) (by cases q5 <;> rfl) (by rfl) (fun hq j w _ hS => by rw [op_load_int rfl (gd_pos hq) (hS.cell b1 f s (by simp) 11 (by decide))]; exact ⟨rfl, hS⟩) ?_
  simp only [Act.put, List.setIfInBounds_toArray, List.set_cons_zero, List.set_cons_succ]
  refine st_if q5 (.bool p6) (by cases q5 <;> rfl) (by rfl) (fun hq j w _ hS => by rw [op_geq rfl (gd_pos hq) rfl, ← hp6H.out]; exact ⟨rfl, hS⟩) ?_
  simp only [Act.put, List.setIfInBounds_toArray, List.set_cons_zero, List.set_cons_succ]
  refine st_val (.bool q6) (by rfl) (by rfl) (fun w => op_pick rfl rfl rfl rfl (by rw [hq6H.out]; cases q5 <;> rfl)) ?_
  simp only [Act.put, List.setIfInBounds_toArray, List.set_cons_zero, List.set_cons_succ]
  refine st_val (.bool q6) (by rfl) (by rfl) (fun w => rfl) ?_
  simp only [Act.put, List.setIfInBounds_toArray, List.set_cons_zero, List.set_cons_succ]
  refine st_if q6 (.pointer (some ⟨b1, 11, none⟩)) (by cases q6 <;> rfl) (by rfl) (fun hq j w _ hS => by rw [op_fa_11 rfl rfl]; exact ⟨rfl, hS⟩) ?_
  simp only [Act.put, List.setIfInBounds_toArray, List.set_cons_zero, List.set_cons_succ]
  refine st_if q6 (.int .i64 (f 11)) (by cases q6 <;> rfl) (by rfl) (fun hq j w _ hS => by rw [op_load_int rfl (gd_pos hq) (hS.cell b1 f s (by simp) 11 (by decide))]; exact ⟨rfl, hS⟩) ?_
  simp only [Act.put, List.setIfInBounds_toArray, List.set_cons_zero, List.set_cons_succ]
  refine st_if q6 (.pointer (some ⟨b1, 12, none⟩)) (by cases q6 <;> rfl) (by rfl) (fun hq j w _ hS => by rw [op_fa_12 rfl rfl]; exact ⟨rfl, hS⟩) ?_
  simp only [Act.put, List.setIfInBounds_toArray, List.set_cons_zero, List.set_cons_succ]
  refine st_if q6 (.int .i64 (f 12)) (by cases q6 <;> rfl) (by rfl) (fun hq j w _ hS => by rw [op_load_int rfl (gd_pos hq) (hS.cell b1 f s (by simp) 12 (by decide))]; exact ⟨rfl, hS⟩) ?_
  simp only [Act.put, List.setIfInBounds_toArray, List.set_cons_zero, List.set_cons_succ]
  refine st_if q6 (.bool p7) (by cases q6 <;> rfl) (by rfl) (fun hq j w _ hS => by rw [op_lss rfl (gd_pos hq) (gd_pos hq), ← hp7H.out]; exact ⟨rfl, hS⟩) ?_
  simp only [Act.put, List.setIfInBounds_toArray, List.set_cons_zero, List.set_cons_succ]
  refine st_val (.bool q7) (by rfl) (by rfl) (fun w => op_pick rfl rfl rfl rfl (by rw [hq7H.out]; cases q6 <;> rfl)) ?_
  simp only [Act.put, List.setIfInBounds_toArray, List.set_cons_zero, List.set_cons_succ]
  refine st_val (.bool q7) (by rfl) (by rfl) (fun w => rfl) ?_
  simp only [Act.put, List.setIfInBounds_toArray, List.set_cons_zero, List.set_cons_succ]
  refine st_if q7 (.pointer (some ⟨b1, 12, none⟩)) (by cases q7 <;> rfl) (by rfl) (fun hq j w _ hS => by rw [op_fa_12 rfl rfl]; exact ⟨rfl, hS⟩) ?_
  simp only [Act.put, List.setIfInBounds_toArray, List.set_cons_zero, List.set_cons_succ]
  refine st_if q7 (.int .i64 (f 12)) (by cases q7 <;> rfl) (by rfl) (fun hq j w _ hS => by rw [op_load_int rfl (gd_pos hq) (hS.cell b1 f s (by simp) 12 (by decide))]; exact ⟨rfl, hS⟩) ?_
  simp only [Act.put, List.setIfInBounds_toArray, List.set_cons_zero, List.set_cons_succ]
  refine st_if q7 (.bool p8) (by cases q7 <;> rfl) (by rfl) (fun hq j w _ hS => by rw [op_leq rfl (gd_pos hq) rfl, ← hp8H.out]; exact ⟨rfl, hS⟩) ?_
  simp only [Act.put, List.setIfInBounds_toArray, List.set_cons_zero, List.set_cons_succ]
  refine st_val (.bool q8) (by rfl) (by rfl) (fun w => op_pick rfl rfl rfl rfl (by rw [hq8H.out]; cases q7 <;> rfl)) ?_
  simp only [Act.put, List.setIfInBounds_toArray, List.set_cons_zero, List.set_cons_succ]
  refine st_val (.bool q8) (by rfl) (by rfl) (fun w => rfl) ?_
  simp only [Act.put, List.setIfInBounds_toArray, List.set_cons_zero, List.set_cons_succ]
  refine st_if q8 (.pointer (some ⟨b1, 14, none⟩)) (by cases q8 <;> rfl) (by rfl) (fun hq j w _ hS => by rw [op_fa_14 rfl rfl]; exact ⟨rfl, hS⟩) ?_
  simp only [Act.put, List.setIfInBounds_toArray, List.set_cons_zero, List.set_cons_succ]
  refine st_if q8 (.int .i64 (f 14)) (by cases q8 <;> rfl) (by rfl) (fun hq j w _ hS => by rw [op_load_int rfl (gd_pos hq) (hS.cell b1 f s (by simp) 14 (by decide))]; exact ⟨rfl, hS⟩) ?_
  simp only [Act.put, List.setIfInBounds_toArray, List.set_cons_zero, List.set_cons_succ]
  refine st_if q8 (.bool p9) (by cases q8 <;> rfl) (by rfl) (fun hq j w _ hS => by rw [op_call3 rfl rfl (gd_pos hq) rfl rfl cf_within]; exact (c9H.out w).mono fun e w' h => by obtain ⟨rfl, rfl⟩ := h; exact ⟨rfl, hS⟩) ?_
  simp only [Act.put, List.setIfInBounds_toArray, List.set_cons_zero, List.set_cons_succ]
  refine st_val (.bool q9) (by rfl) (by rfl) (fun w => op_pick rfl rfl rfl rfl (by rw [hq9H.out]; cases q8 <;> rfl)) ?_
  simp only [Act.put, List.setIfInBounds_toArray, List.set_cons_zero, List.set_cons_succ]
  refine st_step 0 undef (by rfl) (by rfl) (by decide +kernel) (fun w hS => by rw [op_store_fact rfl rfl rfl (hS.store b3 RW.zeroF (RW.gst (RW.yf f) [(1, f 1), (7, f 7), (9, f 9), (10, f 10), (8, f 8), (11, f 11), (12, f 12), (14, f 14)] 8) ⟨#[]⟩ ⟨#[]⟩ (by simp))]; exact ⟨rfl, hS.put b3 RW.zeroF (RW.gst (RW.yf f) [(1, f 1), (7, f 7), (9, f 9), (10, f 10), (8, f 8), (11, f 11), (12, f 12), (14, f 14)] 8) ⟨#[]⟩ ⟨#[]⟩ (by simp) hle3.out _ hn3.out⟩) ?_
  simp only [Act.put]
  refine st_val (.bool q9) (by rfl) (by rfl) (fun w => rfl) ?_
  simp only [Act.put, List.setIfInBounds_toArray, List.set_cons_zero, List.set_cons_succ]
  refine st_nil ?_
  intro W9 hG9
  replace hG9 : FRows ((b3, RW.gst (RW.yf f) [(1, f 1), (7, f 7), (9, f 9), (10, f 10), (8, f 8), (11, f 11), (12, f 12), (14, f 14)] 8, ⟨#[]⟩) :: [(b2, RW.gst (RW.yf f) [(1, f 1), (7, f 7), (9, f 9), (10, f 10), (8, f 8), (11, f 11), (12, f 12), (14, f 14)] 8, ⟨#[]⟩), (b1, f, s)]) w W9 := hG9
  go_wp2_with fail
  refine bodyPost_ret (fields_results _ _ b3 (RW.fcells (RW.gst (RW.yf f) [(1, f 1), (7, f 7), (9, f 9), (10, f 10), (8, f 8), (11, f 11), (12, f 12), (14, f 14)] 8) ⟨#[]⟩) _ rfl rfl rfl (hG9.rows (b3, RW.gst (RW.yf f) [(1, f 1), (7, f 7), (9, f 9), (10, f 10), (8, f 8), (11, f 11), (12, f 12), (14, f 14)] 8, ⟨#[]⟩) (by simp))) rfl ⟨rfl, hG9.below⟩
set_option maxRecDepth 100000 in
set_option maxHeartbeats 8000000 in
theorem rfields4 (f : Nat → Int) (s : ByteArray) (h0 : f 0 = 4) (hs : s.size ≤ 9223372036854775807) (w : World) :
    Calls Tryz.prog 61 #[.agg (RW.fcells f s)] w fun e w' => e = .returned (.tuple #[.agg (RW.fcells (RW.gst (RW.yf f) [(9, f 9), (11, f 11)] 2) s), .bool ((decide (1 ≤ f 9 ∧ f 9 ≤ 1000000) && decide (0 ≤ f 11 ∧ f 11 ≤ 1199)) && decide ((s.size : Int) ≤ 2000))]) ∧ Below w.heap.size w w' := by
  obtain ⟨p1, hp1⟩ : ∃ p, p = decide (1 ≤ f 9 ∧ f 9 ≤ 1000000) := ⟨_, rfl⟩
  have c1 : ∀ W, Calls Tryz.prog 87 #[.int .i64 (f 9)] W fun e w' => e = .returned (.bool p1) ∧ W = w' := fun W => by rw [hp1]; exact rid_any (f 9) W
  obtain ⟨p2, hp2⟩ : ∃ p, p = decide (0 ≤ f 11 ∧ f 11 ≤ 1199) := ⟨_, rfl⟩
  have c2 : ∀ W, Calls Tryz.prog 89 #[.int .i64 (f 11)] W fun e w' => e = .returned (.bool p2) ∧ W = w' := fun W => by rw [hp2]; exact rperiod_any (f 11) W
  obtain ⟨p3, hp3⟩ : ∃ p, p = decide ((s.size : Int) ≤ 2000) := ⟨_, rfl⟩
  rw [← hp1, ← hp2, ← hp3]
  obtain ⟨q2, hq2⟩ : ∃ q, q = (p1 && p2) := ⟨_, rfl⟩
  rw [← hq2]
  obtain ⟨q3, hq3⟩ : ∃ q, q = (q2 && p3) := ⟨_, rfl⟩
  rw [← hq3]
  have c1H := hide c1
  clear c1
  have hp1H := hide hp1
  clear hp1
  have c2H := hide c2
  clear c2
  have hp2H := hide hp2
  clear hp2
  have hq2H := hide hq2
  clear hq2
  have hp3H := hide hp3
  clear hp3
  have hq3H := hide hq3
  clear hq3
  obtain ⟨cs, hcs⟩ : ∃ cs, cs = RW.fcells f s := ⟨_, rfl⟩
  rw [← hcs]
  have hcsH := hide hcs; have h0H := hide h0
  clear hcs h0
  have hiY := fact_info (RW.yf f) ⟨#[]⟩
  go_enter Tryz.func61, Tryz.ntmps61
  go_upto_region 1 with fail
  rw [← fzero]
  obtain ⟨b1, hb1⟩ : ∃ b, b = w.heap.size := ⟨_, rfl⟩
  obtain ⟨b3, hb3⟩ : ∃ b, b = w.heap.size + 1 := ⟨_, rfl⟩
  have hR := (FRows.new (FRows.nil (Below.refl w.heap.size w)) f s).new RW.zeroF ⟨#[]⟩
  rw [show (w.alloc (.cells (RW.fcells f s) 38)).heap.size = b3 by rw [hb3]; simp, ← hcsH.out, ← hb1] at hR
  rw [← hb1] at ⊢
  rw [show b1 + 1 = b3 by omega]
  have hle3 := hide (show w.heap.size ≤ b3 by omega)
  have hb13 := hide (show b1 ≠ b3 by omega)
  refine gen_world (FRows [(b1, f, s), (b3, RW.zeroF, ⟨#[]⟩)] w) (hR.sub (by simp)) ?_
  intro W0 hF0
  clear hR hb1 hb3
  have c0 := hF0.cell b1 f s (by simp) 0 (by decide)
  have c2 := hF0.cell b1 f s (by simp) 2 (by decide)
  go_upto_region 2 with (refine wpList_store_new rfl 38 (.tmp 4) (.tmp 9) rfl (RW.fcells (RW.yf f) ⟨#[]⟩) rfl rfl 38 _ hiY rfl (fcells_one _ _) ?_)
  clear c0 c2 hiY
  have hR := hF0.new (RW.yf f) ⟨#[]⟩
  have hl1 := hF0.lt (b1, f, s) (by simp)
  have hl3 := hF0.lt (b3, RW.zeroF, ⟨#[]⟩) (by simp)
  have hl0 := hF0.below.size
  obtain ⟨b2, hb2⟩ : ∃ b, b = W0.heap.size := ⟨_, rfl⟩
  rw [← hb2] at hR hl1 hl3 hl0 ⊢
  have hle2 := hide (show w.heap.size ≤ b2 by omega)
  have hbbH := hide (show b1 ≠ b2 ∧ b1 ≠ b3 ∧ b2 ≠ b3 by have := hb13.out; simp at hl1 hl3; omega)
  have hne := hide (show ∀ x ∈ [(b1, f, s), (b3, RW.zeroF, (⟨#[]⟩ : ByteArray))], x.1 ≠ b2 by have := hbbH.out; simp; omega)
  refine gen_world (FRows [(b2, RW.yf f, ⟨#[]⟩), (b1, f, s), (b3, RW.zeroF, ⟨#[]⟩)] w) hR ?_
  clear hR hb2 hl1 hl3 hl0 hF0
  intro W hF
  have c0 := hF.cell b1 f s (by simp) 0 (by decide)
  rw [h0H.out] at c0
  go_upto_region 15 with fail
  refine wp_region_staged (fun j => FRows ((b2, (match j with | 0 => RW.gst (RW.yf f) [(9, f 9), (11, f 11)] 0 | 1 => RW.gst (RW.yf f) [(9, f 9), (11, f 11)] 1 | 2 => RW.gst (RW.yf f) [(9, f 9), (11, f 11)] 2 | _ => RW.gst (RW.yf f) [(9, f 9), (11, f 11)] 2), (match j with | 0 => ⟨#[]⟩ | 1 => ⟨#[]⟩ | 2 => ⟨#[]⟩ | _ => s)) :: [(b1, f, s), (b3, RW.zeroF, ⟨#[]⟩)]) w) [7, 9, 11] (by kernel_rfl) (by kernel_rfl) (by rfl) hF.drew ?_
  clear hF
  refine st_val (.pointer (some ⟨b1, 9, none⟩)) (by rfl) (by rfl) (fun w => op_fa_9 rfl rfl) ?_
  simp only [Act.put, List.setIfInBounds_toArray, List.set_cons_zero, List.set_cons_succ]
  refine st_op (.int .i64 (f 9)) (by rfl) (by rfl) (fun j w _ hS => by rw [op_load_int rfl rfl (hS.cell b1 f s (by simp) 9 (by decide))]; exact ⟨rfl, hS⟩) ?_
  simp only [Act.put, List.setIfInBounds_toArray, List.set_cons_zero, List.set_cons_succ]
  refine st_val (.pointer (some ⟨b1, 11, none⟩)) (by rfl) (by rfl) (fun w => op_fa_11 rfl rfl) ?_
  simp only [Act.put, List.setIfInBounds_toArray, List.set_cons_zero, List.set_cons_succ]
  refine st_op (.int .i64 (f 11)) (by rfl) (by rfl) (fun j w _ hS => by rw [op_load_int rfl rfl (hS.cell b1 f s (by simp) 11 (by decide))]; exact ⟨rfl, hS⟩) ?_
  simp only [Act.put, List.setIfInBounds_toArray, List.set_cons_zero, List.set_cons_succ]
  refine st_val (.pointer (some ⟨b1, 17, none⟩)) (by rfl) (by rfl) (fun w => op_fa_17 rfl rfl) ?_
  simp only [Act.put, List.setIfInBounds_toArray, List.set_cons_zero, List.set_cons_succ]
  refine st_op (.string s) (by rfl) (by rfl) (fun j w _ hS => by rw [op_load_str rfl rfl (hS.text b1 f s (by simp))]; exact ⟨rfl, hS⟩) ?_
  simp only [Act.put, List.setIfInBounds_toArray, List.set_cons_zero, List.set_cons_succ]
  refine st_val (.pointer (some ⟨b2, 9, none⟩)) (by rfl) (by rfl) (fun w => op_fa_9 rfl rfl) ?_
  simp only [Act.put, List.setIfInBounds_toArray, List.set_cons_zero, List.set_cons_succ]
  refine st_step 0 undef (by rfl) (by rfl) (by decide +kernel) (fun w hS => by rw [op_store_int rfl rfl rfl (hS.cell b2 (RW.gst (RW.yf f) [(9, f 9), (11, f 11)] 0) ⟨#[]⟩ (by simp) 9 (by decide)) (hS.unfrozen b2 (RW.gst (RW.yf f) [(9, f 9), (11, f 11)] 0) ⟨#[]⟩ (by simp) 9)]; exact ⟨rfl, hS.set hle2.out hne.out 9 (by decide) (f 9)⟩) ?_
  simp only [Act.put]
  refine st_val (.pointer (some ⟨b2, 11, none⟩)) (by rfl) (by rfl) (fun w => op_fa_11 rfl rfl) ?_
  simp only [Act.put, List.setIfInBounds_toArray, List.set_cons_zero, List.set_cons_succ]
  refine st_step 1 undef (by rfl) (by rfl) (by decide +kernel) (fun w hS => by rw [op_store_int rfl rfl rfl (hS.cell b2 (RW.gst (RW.yf f) [(9, f 9), (11, f 11)] 1) ⟨#[]⟩ (by simp) 11 (by decide)) (hS.unfrozen b2 (RW.gst (RW.yf f) [(9, f 9), (11, f 11)] 1) ⟨#[]⟩ (by simp) 11)]; exact ⟨rfl, hS.set hle2.out hne.out 11 (by decide) (f 11)⟩) ?_
  simp only [Act.put]
  refine st_val (.pointer (some ⟨b2, 17, none⟩)) (by rfl) (by rfl) (fun w => op_fa_17 rfl rfl) ?_
  simp only [Act.put, List.setIfInBounds_toArray, List.set_cons_zero, List.set_cons_succ]
  refine st_step 2 undef (by rfl) (by rfl) (by decide +kernel) (fun w hS => by rw [op_store_str rfl rfl rfl (hS.text b2 (RW.gst (RW.yf f) [(9, f 9), (11, f 11)] 2) ⟨#[]⟩ (by simp)) (hS.unfrozen b2 (RW.gst (RW.yf f) [(9, f 9), (11, f 11)] 2) ⟨#[]⟩ (by simp) 17)]; exact ⟨rfl, hS.settext hle2.out hne.out s⟩) ?_
  simp only [Act.put]
  refine st_nil ?_
  intro W1 hG1
  replace hG1 : FRows ((b2, RW.gst (RW.yf f) [(9, f 9), (11, f 11)] 2, s) :: [(b1, f, s), (b3, RW.zeroF, ⟨#[]⟩)]) w W1 := hG1
  go_upto_region 16 with fail
  refine wp_region_staged (fun j => FRows ((b3, (match j with | 0 => RW.zeroF | _ => RW.gst (RW.yf f) [(9, f 9), (11, f 11)] 2), (match j with | 0 => ⟨#[]⟩ | _ => s)) :: [(b2, RW.gst (RW.yf f) [(9, f 9), (11, f 11)] 2, s), (b1, f, s)]) w) [15] (by kernel_rfl) (by kernel_rfl) (by rfl) (hG1.sub (l' := (b3, RW.zeroF, ⟨#[]⟩) :: [(b2, RW.gst (RW.yf f) [(9, f 9), (11, f 11)] 2, s), (b1, f, s)]) (by simp)).drew ?_
  clear hG1
  have hn3 := hide (show ∀ x ∈ (b3, RW.gst (RW.yf f) [(9, f 9), (11, f 11)] 2, s) :: [(b2, RW.gst (RW.yf f) [(9, f 9), (11, f 11)] 2, s), (b1, f, s)], x = (b3, RW.gst (RW.yf f) [(9, f 9), (11, f 11)] 2, s) ∨ (x ∈ (b3, RW.zeroF, (⟨#[]⟩ : ByteArray)) :: [(b2, RW.gst (RW.yf f) [(9, f 9), (11, f 11)] 2, s), (b1, f, s)] ∧ x.1 ≠ b3) by have := hbbH.out; simp; omega)
  refine st_op (.agg (RW.fcells (RW.gst (RW.yf f) [(9, f 9), (11, f 11)] 2) s)) (by rfl) (by rfl) (fun j w _ hS => by rw [op_load_fact rfl rfl (hS.load b2 (RW.gst (RW.yf f) [(9, f 9), (11, f 11)] 2) s (by simp))]; exact ⟨rfl, hS⟩) ?_
  simp only [Act.put, List.setIfInBounds_toArray, List.set_cons_zero, List.set_cons_succ]
  refine st_op (.pointer (some ⟨b1, 9, none⟩)) (by rfl) (by rfl) (fun j w _ hS => by rw [op_fa_9 rfl rfl]; exact ⟨rfl, hS⟩) ?_
  simp only [Act.put, List.setIfInBounds_toArray, List.set_cons_zero, List.set_cons_succ]
  refine st_op (.int .i64 (f 9)) (by rfl) (by rfl) (fun j w _ hS => by rw [op_load_int rfl rfl (hS.cell b1 f s (by simp) 9 (by decide))]; exact ⟨rfl, hS⟩) ?_
  simp only [Act.put, List.setIfInBounds_toArray, List.set_cons_zero, List.set_cons_succ]
  refine st_op (.bool p1) (by rfl) (by rfl) (fun j w _ hS => by rw [op_call1 rfl rfl rfl cf_id]; exact (c1H.out w).mono fun e w' h => by obtain ⟨rfl, rfl⟩ := h; exact ⟨rfl, hS⟩) ?_
  simp only [Act.put, List.setIfInBounds_toArray, List.set_cons_zero, List.set_cons_succ]
  refine st_val (.bool p1) (by rfl) (by rfl) (fun w => rfl) ?_
  simp only [Act.put, List.setIfInBounds_toArray, List.set_cons_zero, List.set_cons_succ]
  refine st_if p1 (.pointer (some ⟨b1, 11, none⟩)) (by cases p1 <;> rfl) (by rfl) (fun hq j w _ hS => by rw [op_fa_11 rfl rfl]; exact ⟨rfl, hS⟩) ?_
  simp only [Act.put, List.setIfInBounds_toArray, List.set_cons_zero, List.set_cons_succ]
  refine st_if p1 (.int .i64 (f 11)) (by cases p1 <;> rfl) (by rfl) (fun hq j w _ hS => by rw [op_load_int rfl (gd_pos hq) (hS.cell b1 f s (by simp) 11 (by decide))]; exact ⟨rfl, hS⟩) ?_
  simp only [Act.put, List.setIfInBounds_toArray, List.set_cons_zero, List.set_cons_succ]
  refine st_if p1 (.bool p2) (by cases p1 <;> rfl) (by rfl) (fun hq j w _ hS => by rw [op_call1 rfl rfl (gd_pos hq) cf_period]; exact (c2H.out w).mono fun e w' h => by obtain ⟨rfl, rfl⟩ := h; exact ⟨rfl, hS⟩) ?_
  simp only [Act.put, List.setIfInBounds_toArray, List.set_cons_zero, List.set_cons_succ]
  refine st_val (.bool q2) (by rfl) (by rfl) (fun w => op_pick rfl rfl rfl rfl (by rw [hq2H.out]; cases p1 <;> rfl)) ?_
  simp only [Act.put, List.setIfInBounds_toArray, List.set_cons_zero, List.set_cons_succ]
  refine st_val (.bool q2) (by rfl) (by rfl) (fun w => rfl) ?_
  simp only [Act.put, List.setIfInBounds_toArray, List.set_cons_zero, List.set_cons_succ]
  refine st_if q2 (.pointer (some ⟨b1, 17, none⟩)) (by cases q2 <;> rfl) (by rfl) (fun hq j w _ hS => by rw [op_fa_17 rfl rfl]; exact ⟨rfl, hS⟩) ?_
  simp only [Act.put, List.setIfInBounds_toArray, List.set_cons_zero, List.set_cons_succ]
  refine st_if q2 (.string s) (by cases q2 <;> rfl) (by rfl) (fun hq j w _ hS => by rw [op_load_str rfl (gd_pos hq) (hS.text b1 f s (by simp))]; exact ⟨rfl, hS⟩) ?_
  simp only [Act.put, List.setIfInBounds_toArray, List.set_cons_zero, List.set_cons_succ]
  refine st_if q2 (.int .i64 s.size) (by cases q2 <;> rfl) (by rfl) (fun hq j w _ hS => by rw [op_len rfl (gd_pos hq) hs]; exact ⟨rfl, hS⟩) ?_
  simp only [Act.put, List.setIfInBounds_toArray, List.set_cons_zero, List.set_cons_succ]
  refine st_if q2 (.bool p3) (by cases q2 <;> rfl) (by rfl) (fun hq j w _ hS => by rw [op_leq rfl (gd_pos hq) rfl, ← hp3H.out]; exact ⟨rfl, hS⟩) ?_
  simp only [Act.put, List.setIfInBounds_toArray, List.set_cons_zero, List.set_cons_succ]
  refine st_val (.bool q3) (by rfl) (by rfl) (fun w => op_pick rfl rfl rfl rfl (by rw [hq3H.out]; cases q2 <;> rfl)) ?_
  simp only [Act.put, List.setIfInBounds_toArray, List.set_cons_zero, List.set_cons_succ]
  refine st_step 0 undef (by rfl) (by rfl) (by decide +kernel) (fun w hS => by rw [op_store_fact rfl rfl rfl (hS.store b3 RW.zeroF (RW.gst (RW.yf f) [(9, f 9), (11, f 11)] 2) ⟨#[]⟩ s (by simp))]; exact ⟨rfl, hS.put b3 RW.zeroF (RW.gst (RW.yf f) [(9, f 9), (11, f 11)] 2) ⟨#[]⟩ s (by simp) hle3.out _ hn3.out⟩) ?_
  simp only [Act.put]
  refine st_val (.bool q3) (by rfl) (by rfl) (fun w => rfl) ?_
  simp only [Act.put, List.setIfInBounds_toArray, List.set_cons_zero, List.set_cons_succ]
  refine st_nil ?_
  intro W9 hG9
  replace hG9 : FRows ((b3, RW.gst (RW.yf f) [(9, f 9), (11, f 11)] 2, s) :: [(b2, RW.gst (RW.yf f) [(9, f 9), (11, f 11)] 2, s), (b1, f, s)]) w W9 := hG9
  go_wp2_with fail
  refine bodyPost_ret (fields_results _ _ b3 (RW.fcells (RW.gst (RW.yf f) [(9, f 9), (11, f 11)] 2) s) _ rfl rfl rfl (hG9.rows (b3, RW.gst (RW.yf f) [(9, f 9), (11, f 11)] 2, s) (by simp))) rfl ⟨rfl, hG9.below⟩
set_option maxRecDepth 100000 in
set_option maxHeartbeats 8000000 in
theorem rfields5 (f : Nat → Int) (s : ByteArray) (h0 : f 0 = 5) (w : World) :
    Calls Tryz.prog 61 #[.agg (RW.fcells f s)] w fun e w' => e = .returned (.tuple #[.agg (RW.fcells (RW.gst (RW.yf f) [(1, f 1), (3, f 3), (8, f 8), (13, f 13), (15, f 15)] 5) ⟨#[]⟩), .bool ((((decide (1 ≤ f 1 ∧ f 1 ≤ 1000000) && decide (0 ≤ f 3 ∧ f 3 ≤ 1199)) && decide (0 ≤ f 8 ∧ f 8 ≤ 7)) && decide (0 ≤ f 13 ∧ f 13 ≤ 10000000000)) && decide (0 ≤ f 15 ∧ f 15 ≤ 20))]) ∧ Below w.heap.size w w' := by
  obtain ⟨p1, hp1⟩ : ∃ p, p = decide (1 ≤ f 1 ∧ f 1 ≤ 1000000) := ⟨_, rfl⟩
  have c1 : ∀ W, Calls Tryz.prog 87 #[.int .i64 (f 1)] W fun e w' => e = .returned (.bool p1) ∧ W = w' := fun W => by rw [hp1]; exact rid_any (f 1) W
  obtain ⟨p2, hp2⟩ : ∃ p, p = decide (0 ≤ f 3 ∧ f 3 ≤ 1199) := ⟨_, rfl⟩
  have c2 : ∀ W, Calls Tryz.prog 89 #[.int .i64 (f 3)] W fun e w' => e = .returned (.bool p2) ∧ W = w' := fun W => by rw [hp2]; exact rperiod_any (f 3) W
  obtain ⟨p3, hp3⟩ : ∃ p, p = decide (0 ≤ f 8 ∧ f 8 ≤ 7) := ⟨_, rfl⟩
  have c3 : ∀ W, Calls Tryz.prog 88 #[.int .i64 (f 8)] W fun e w' => e = .returned (.bool p3) ∧ W = w' := fun W => by rw [hp3]; exact rterr_any (f 8) W
  obtain ⟨p4, hp4⟩ : ∃ p, p = decide (0 ≤ f 13 ∧ f 13 ≤ 10000000000) := ⟨_, rfl⟩
  have c4 : ∀ W, Calls Tryz.prog 62 #[.int .i64 (f 13), .int .i64 0, .int .i64 10000000000] W fun e w' => e = .returned (.bool p4) ∧ W = w' := fun W => by rw [hp4]; exact rwithin_any (f 13) 0 10000000000 W
  obtain ⟨p5, hp5⟩ : ∃ p, p = decide (0 ≤ f 15 ∧ f 15 ≤ 20) := ⟨_, rfl⟩
  have c5 : ∀ W, Calls Tryz.prog 62 #[.int .i64 (f 15), .int .i64 0, .int .i64 20] W fun e w' => e = .returned (.bool p5) ∧ W = w' := fun W => by rw [hp5]; exact rwithin_any (f 15) 0 20 W
  rw [← hp1, ← hp2, ← hp3, ← hp4, ← hp5]
  obtain ⟨q2, hq2⟩ : ∃ q, q = (p1 && p2) := ⟨_, rfl⟩
  rw [← hq2]
  obtain ⟨q3, hq3⟩ : ∃ q, q = (q2 && p3) := ⟨_, rfl⟩
  rw [← hq3]
  obtain ⟨q4, hq4⟩ : ∃ q, q = (q3 && p4) := ⟨_, rfl⟩
  rw [← hq4]
  obtain ⟨q5, hq5⟩ : ∃ q, q = (q4 && p5) := ⟨_, rfl⟩
  rw [← hq5]
  have c1H := hide c1
  clear c1
  have hp1H := hide hp1
  clear hp1
  have c2H := hide c2
  clear c2
  have hp2H := hide hp2
  clear hp2
  have hq2H := hide hq2
  clear hq2
  have c3H := hide c3
  clear c3
  have hp3H := hide hp3
  clear hp3
  have hq3H := hide hq3
  clear hq3
  have c4H := hide c4
  clear c4
  have hp4H := hide hp4
  clear hp4
  have hq4H := hide hq4
  clear hq4
  have c5H := hide c5
  clear c5
  have hp5H := hide hp5
  clear hp5
  have hq5H := hide hq5
  clear hq5
  obtain ⟨cs, hcs⟩ : ∃ cs, cs = RW.fcells f s := ⟨_, rfl⟩
  rw [← hcs]
  have hcsH := hide hcs; have h0H := hide h0
  clear hcs h0
  have hiY := fact_info (RW.yf f) ⟨#[]⟩
  go_enter Tryz.func61, Tryz.ntmps61
  go_upto_region 1 with fail
  rw [← fzero]
  obtain ⟨b1, hb1⟩ : ∃ b, b = w.heap.size := ⟨_, rfl⟩
  obtain ⟨b3, hb3⟩ : ∃ b, b = w.heap.size + 1 := ⟨_, rfl⟩
  have hR := (FRows.new (FRows.nil (Below.refl w.heap.size w)) f s).new RW.zeroF ⟨#[]⟩
  rw [show (w.alloc (.cells (RW.fcells f s) 38)).heap.size = b3 by rw [hb3]; simp, ← hcsH.out, ← hb1] at hR
  rw [← hb1] at ⊢
  rw [show b1 + 1 = b3 by omega]
  have hle3 := hide (show w.heap.size ≤ b3 by omega)
  have hb13 := hide (show b1 ≠ b3 by omega)
  refine gen_world (FRows [(b1, f, s), (b3, RW.zeroF, ⟨#[]⟩)] w) (hR.sub (by simp)) ?_
  intro W0 hF0
  clear hR hb1 hb3
  have c0 := hF0.cell b1 f s (by simp) 0 (by decide)
  have c2 := hF0.cell b1 f s (by simp) 2 (by decide)
  go_upto_region 2 with (refine wpList_store_new rfl 38 (.tmp 4) (.tmp 9) rfl (RW.fcells (RW.yf f) ⟨#[]⟩) rfl rfl 38 _ hiY rfl (fcells_one _ _) ?_)
  clear c0 c2 hiY
  have hR := hF0.new (RW.yf f) ⟨#[]⟩
  have hl1 := hF0.lt (b1, f, s) (by simp)
  have hl3 := hF0.lt (b3, RW.zeroF, ⟨#[]⟩) (by simp)
  have hl0 := hF0.below.size
  obtain ⟨b2, hb2⟩ : ∃ b, b = W0.heap.size := ⟨_, rfl⟩
  rw [← hb2] at hR hl1 hl3 hl0 ⊢
  have hle2 := hide (show w.heap.size ≤ b2 by omega)
  have hbbH := hide (show b1 ≠ b2 ∧ b1 ≠ b3 ∧ b2 ≠ b3 by have := hb13.out; simp at hl1 hl3; omega)
  have hne := hide (show ∀ x ∈ [(b1, f, s), (b3, RW.zeroF, (⟨#[]⟩ : ByteArray))], x.1 ≠ b2 by have := hbbH.out; simp; omega)
  refine gen_world (FRows [(b2, RW.yf f, ⟨#[]⟩), (b1, f, s), (b3, RW.zeroF, ⟨#[]⟩)] w) hR ?_
  clear hR hb2 hl1 hl3 hl0 hF0
  intro W hF
  have c0 := hF.cell b1 f s (by simp) 0 (by decide)
  rw [h0H.out] at c0
  go_upto_region 18 with fail
  refine wp_region_staged (fun j => FRows ((b2, (match j with | 0 => RW.gst (RW.yf f) [(1, f 1), (3, f 3), (8, f 8), (13, f 13), (15, f 15)] 0 | 1 => RW.gst (RW.yf f) [(1, f 1), (3, f 3), (8, f 8), (13, f 13), (15, f 15)] 1 | 2 => RW.gst (RW.yf f) [(1, f 1), (3, f 3), (8, f 8), (13, f 13), (15, f 15)] 2 | 3 => RW.gst (RW.yf f) [(1, f 1), (3, f 3), (8, f 8), (13, f 13), (15, f 15)] 3 | 4 => RW.gst (RW.yf f) [(1, f 1), (3, f 3), (8, f 8), (13, f 13), (15, f 15)] 4 | _ => RW.gst (RW.yf f) [(1, f 1), (3, f 3), (8, f 8), (13, f 13), (15, f 15)] 5), (match j with | 0 => ⟨#[]⟩ | 1 => ⟨#[]⟩ | 2 => ⟨#[]⟩ | 3 => ⟨#[]⟩ | 4 => ⟨#[]⟩ | _ => ⟨#[]⟩)) :: [(b1, f, s), (b3, RW.zeroF, ⟨#[]⟩)]) w) [11, 13, 15, 17, 19] (by kernel_rfl) (by kernel_rfl) (by rfl) hF.drew ?_
  clear hF
  refine st_val (.pointer (some ⟨b1, 1, none⟩)) (by rfl) (by rfl) (fun w => op_fa_1 rfl rfl) ?_
  simp only [Act.put, List.setIfInBounds_toArray, List.set_cons_zero, List.set_cons_succ]
  refine st_op (.int .i64 (f 1)) (by rfl) (by rfl) (fun j w _ hS => by rw [op_load_int rfl rfl (hS.cell b1 f s (by simp) 1 (by decide))]; exact ⟨rfl, hS⟩) ?_
  simp only [Act.put, List.setIfInBounds_toArray, List.set_cons_zero, List.set_cons_succ]
  refine st_val (.pointer (some ⟨b1, 3, none⟩)) (by rfl) (by rfl) (fun w => op_fa_3 rfl rfl) ?_
  simp only [Act.put, List.setIfInBounds_toArray, List.set_cons_zero, List.set_cons_succ]
  refine st_op (.int .i64 (f 3)) (by rfl) (by rfl) (fun j w _ hS => by rw [op_load_int rfl rfl (hS.cell b1 f s (by simp) 3 (by decide))]; exact ⟨rfl, hS⟩) ?_
  simp only [Act.put, List.setIfInBounds_toArray, List.set_cons_zero, List.set_cons_succ]
  refine st_val (.pointer (some ⟨b1, 8, none⟩)) (by rfl) (by rfl) (fun w => op_fa_8 rfl rfl) ?_
  simp only [Act.put, List.setIfInBounds_toArray, List.set_cons_zero, List.set_cons_succ]
  refine st_op (.int .i64 (f 8)) (by rfl) (by rfl) (fun j w _ hS => by rw [op_load_int rfl rfl (hS.cell b1 f s (by simp) 8 (by decide))]; exact ⟨rfl, hS⟩) ?_
  simp only [Act.put, List.setIfInBounds_toArray, List.set_cons_zero, List.set_cons_succ]
  refine st_val (.pointer (some ⟨b1, 13, none⟩)) (by rfl) (by rfl) (fun w => op_fa_13 rfl rfl) ?_
  simp only [Act.put, List.setIfInBounds_toArray, List.set_cons_zero, List.set_cons_succ]
  refine st_op (.int .i64 (f 13)) (by rfl) (by rfl) (fun j w _ hS => by rw [op_load_int rfl rfl (hS.cell b1 f s (by simp) 13 (by decide))]; exact ⟨rfl, hS⟩) ?_
  simp only [Act.put, List.setIfInBounds_toArray, List.set_cons_zero, List.set_cons_succ]
  refine st_val (.pointer (some ⟨b1, 15, none⟩)) (by rfl) (by rfl) (fun w => op_fa_15 rfl rfl) ?_
  simp only [Act.put, List.setIfInBounds_toArray, List.set_cons_zero, List.set_cons_succ]
  refine st_op (.int .i64 (f 15)) (by rfl) (by rfl) (fun j w _ hS => by rw [op_load_int rfl rfl (hS.cell b1 f s (by simp) 15 (by decide))]; exact ⟨rfl, hS⟩) ?_
  simp only [Act.put, List.setIfInBounds_toArray, List.set_cons_zero, List.set_cons_succ]
  refine st_val (.pointer (some ⟨b2, 1, none⟩)) (by rfl) (by rfl) (fun w => op_fa_1 rfl rfl) ?_
  simp only [Act.put, List.setIfInBounds_toArray, List.set_cons_zero, List.set_cons_succ]
  refine st_step 0 undef (by rfl) (by rfl) (by decide +kernel) (fun w hS => by rw [op_store_int rfl rfl rfl (hS.cell b2 (RW.gst (RW.yf f) [(1, f 1), (3, f 3), (8, f 8), (13, f 13), (15, f 15)] 0) ⟨#[]⟩ (by simp) 1 (by decide)) (hS.unfrozen b2 (RW.gst (RW.yf f) [(1, f 1), (3, f 3), (8, f 8), (13, f 13), (15, f 15)] 0) ⟨#[]⟩ (by simp) 1)]; exact ⟨rfl, hS.set hle2.out hne.out 1 (by decide) (f 1)⟩) ?_
  simp only [Act.put]
  refine st_val (.pointer (some ⟨b2, 3, none⟩)) (by rfl) (by rfl) (fun w => op_fa_3 rfl rfl) ?_
  simp only [Act.put, List.setIfInBounds_toArray, List.set_cons_zero, List.set_cons_succ]
  refine st_step 1 undef (by rfl) (by rfl) (by decide +kernel) (fun w hS => by rw [op_store_int rfl rfl rfl (hS.cell b2 (RW.gst (RW.yf f) [(1, f 1), (3, f 3), (8, f 8), (13, f 13), (15, f 15)] 1) ⟨#[]⟩ (by simp) 3 (by decide)) (hS.unfrozen b2 (RW.gst (RW.yf f) [(1, f 1), (3, f 3), (8, f 8), (13, f 13), (15, f 15)] 1) ⟨#[]⟩ (by simp) 3)]; exact ⟨rfl, hS.set hle2.out hne.out 3 (by decide) (f 3)⟩) ?_
  simp only [Act.put]
  refine st_val (.pointer (some ⟨b2, 8, none⟩)) (by rfl) (by rfl) (fun w => op_fa_8 rfl rfl) ?_
  simp only [Act.put, List.setIfInBounds_toArray, List.set_cons_zero, List.set_cons_succ]
  refine st_step 2 undef (by rfl) (by rfl) (by decide +kernel) (fun w hS => by rw [op_store_int rfl rfl rfl (hS.cell b2 (RW.gst (RW.yf f) [(1, f 1), (3, f 3), (8, f 8), (13, f 13), (15, f 15)] 2) ⟨#[]⟩ (by simp) 8 (by decide)) (hS.unfrozen b2 (RW.gst (RW.yf f) [(1, f 1), (3, f 3), (8, f 8), (13, f 13), (15, f 15)] 2) ⟨#[]⟩ (by simp) 8)]; exact ⟨rfl, hS.set hle2.out hne.out 8 (by decide) (f 8)⟩) ?_
  simp only [Act.put]
  refine st_val (.pointer (some ⟨b2, 13, none⟩)) (by rfl) (by rfl) (fun w => op_fa_13 rfl rfl) ?_
  simp only [Act.put, List.setIfInBounds_toArray, List.set_cons_zero, List.set_cons_succ]
  refine st_step 3 undef (by rfl) (by rfl) (by decide +kernel) (fun w hS => by rw [op_store_int rfl rfl rfl (hS.cell b2 (RW.gst (RW.yf f) [(1, f 1), (3, f 3), (8, f 8), (13, f 13), (15, f 15)] 3) ⟨#[]⟩ (by simp) 13 (by decide)) (hS.unfrozen b2 (RW.gst (RW.yf f) [(1, f 1), (3, f 3), (8, f 8), (13, f 13), (15, f 15)] 3) ⟨#[]⟩ (by simp) 13)]; exact ⟨rfl, hS.set hle2.out hne.out 13 (by decide) (f 13)⟩) ?_
  simp only [Act.put]
  refine st_val (.pointer (some ⟨b2, 15, none⟩)) (by rfl) (by rfl) (fun w => op_fa_15 rfl rfl) ?_
  simp only [Act.put, List.setIfInBounds_toArray, List.set_cons_zero, List.set_cons_succ]
  refine st_step 4 undef (by rfl) (by rfl) (by decide +kernel) (fun w hS => by rw [op_store_int rfl rfl rfl (hS.cell b2 (RW.gst (RW.yf f) [(1, f 1), (3, f 3), (8, f 8), (13, f 13), (15, f 15)] 4) ⟨#[]⟩ (by simp) 15 (by decide)) (hS.unfrozen b2 (RW.gst (RW.yf f) [(1, f 1), (3, f 3), (8, f 8), (13, f 13), (15, f 15)] 4) ⟨#[]⟩ (by simp) 15)]; exact ⟨rfl, hS.set hle2.out hne.out 15 (by decide) (f 15)⟩) ?_
  simp only [Act.put]
  refine st_nil ?_
  intro W1 hG1
  replace hG1 : FRows ((b2, RW.gst (RW.yf f) [(1, f 1), (3, f 3), (8, f 8), (13, f 13), (15, f 15)] 5, ⟨#[]⟩) :: [(b1, f, s), (b3, RW.zeroF, ⟨#[]⟩)]) w W1 := hG1
  go_upto_region 19 with fail
  refine wp_region_staged (fun j => FRows ((b3, (match j with | 0 => RW.zeroF | _ => RW.gst (RW.yf f) [(1, f 1), (3, f 3), (8, f 8), (13, f 13), (15, f 15)] 5), (match j with | 0 => ⟨#[]⟩ | _ => ⟨#[]⟩)) :: [(b2, RW.gst (RW.yf f) [(1, f 1), (3, f 3), (8, f 8), (13, f 13), (15, f 15)] 5, ⟨#[]⟩), (b1, f, s)]) w) [24] (by kernel_rfl) (by kernel_rfl) (by rfl) (hG1.sub (l' := (b3, RW.zeroF, ⟨#[]⟩) :: [(b2, RW.gst (RW.yf f) [(1, f 1), (3, f 3), (8, f 8), (13, f 13), (15, f 15)] 5, ⟨#[]⟩), (b1, f, s)]) (by simp)).drew ?_
  clear hG1
  have hn3 := hide (show ∀ x ∈ (b3, RW.gst (RW.yf f) [(1, f 1), (3, f 3), (8, f 8), (13, f 13), (15, f 15)] 5, ⟨#[]⟩) :: [(b2, RW.gst (RW.yf f) [(1, f 1), (3, f 3), (8, f 8), (13, f 13), (15, f 15)] 5, ⟨#[]⟩), (b1, f, s)], x = (b3, RW.gst (RW.yf f) [(1, f 1), (3, f 3), (8, f 8), (13, f 13), (15, f 15)] 5, ⟨#[]⟩) ∨ (x ∈ (b3, RW.zeroF, (⟨#[]⟩ : ByteArray)) :: [(b2, RW.gst (RW.yf f) [(1, f 1), (3, f 3), (8, f 8), (13, f 13), (15, f 15)] 5, ⟨#[]⟩), (b1, f, s)] ∧ x.1 ≠ b3) by have := hbbH.out; simp; omega)
  refine st_op (.agg (RW.fcells (RW.gst (RW.yf f) [(1, f 1), (3, f 3), (8, f 8), (13, f 13), (15, f 15)] 5) ⟨#[]⟩)) (by rfl) (by rfl) (fun j w _ hS => by rw [op_load_fact rfl rfl (hS.load b2 (RW.gst (RW.yf f) [(1, f 1), (3, f 3), (8, f 8), (13, f 13), (15, f 15)] 5) ⟨#[]⟩ (by simp))]; exact ⟨rfl, hS⟩) ?_
  simp only [Act.put, List.setIfInBounds_toArray, List.set_cons_zero, List.set_cons_succ]
  refine st_op (.pointer (some ⟨b1, 1, none⟩)) (by rfl) (by rfl) (fun j w _ hS => by rw [op_fa_1 rfl rfl]; exact ⟨rfl, hS⟩) ?_
  simp only [Act.put, List.setIfInBounds_toArray, List.set_cons_zero, List.set_cons_succ]
  refine st_op (.int .i64 (f 1)) (by rfl) (by rfl) (fun j w _ hS => by rw [op_load_int rfl rfl (hS.cell b1 f s (by simp) 1 (by decide))]; exact ⟨rfl, hS⟩) ?_
  simp only [Act.put, List.setIfInBounds_toArray, List.set_cons_zero, List.set_cons_succ]
  refine st_op (.bool p1) (by rfl) (by rfl) (fun j w _ hS => by rw [op_call1 rfl rfl rfl cf_id]; exact (c1H.out w).mono fun e w' h => by obtain ⟨rfl, rfl⟩ := h; exact ⟨rfl, hS⟩) ?_
  simp only [Act.put, List.setIfInBounds_toArray, List.set_cons_zero, List.set_cons_succ]
  refine st_val (.bool p1) (by rfl) (by rfl) (fun w => rfl) ?_
  simp only [Act.put, List.setIfInBounds_toArray, List.set_cons_zero, List.set_cons_succ]
  refine st_if p1 (.pointer (some ⟨b1, 3, none⟩)) (by cases p1 <;> rfl) (by rfl) (fun hq j w _ hS => by rw [op_fa_3 rfl rfl]; exact ⟨rfl, hS⟩) ?_
  simp only [Act.put, List.setIfInBounds_toArray, List.set_cons_zero, List.set_cons_succ]
  refine st_if p1 (.int .i64 (f 3)) (by cases p1 <;> rfl) (by rfl) (fun hq j w _ hS => by rw [op_load_int rfl (gd_pos hq) (hS.cell b1 f s (by simp) 3 (by decide))]; exact ⟨rfl, hS⟩) ?_
  simp only [Act.put, List.setIfInBounds_toArray, List.set_cons_zero, List.set_cons_succ]
  refine st_if p1 (.bool p2) (by cases p1 <;> rfl) (by rfl) (fun hq j w _ hS => by rw [op_call1 rfl rfl (gd_pos hq) cf_period]; exact (c2H.out w).mono fun e w' h => by obtain ⟨rfl, rfl⟩ := h; exact ⟨rfl, hS⟩) ?_
  simp only [Act.put, List.setIfInBounds_toArray, List.set_cons_zero, List.set_cons_succ]
  refine st_val (.bool q2) (by rfl) (by rfl) (fun w => op_pick rfl rfl rfl rfl (by rw [hq2H.out]; cases p1 <;> rfl)) ?_
  simp only [Act.put, List.setIfInBounds_toArray, List.set_cons_zero, List.set_cons_succ]
  refine st_val (.bool q2) (by rfl) (by rfl) (fun w => rfl) ?_
  simp only [Act.put, List.setIfInBounds_toArray, List.set_cons_zero, List.set_cons_succ]
  refine st_if q2 (.pointer (some ⟨b1, 8, none⟩)) (by cases q2 <;> rfl) (by rfl) (fun hq j w _ hS => by rw [op_fa_8 rfl rfl]; exact ⟨rfl, hS⟩) ?_
  simp only [Act.put, List.setIfInBounds_toArray, List.set_cons_zero, List.set_cons_succ]
  refine st_if q2 (.int .i64 (f 8)) (by cases q2 <;> rfl) (by rfl) (fun hq j w _ hS => by rw [op_load_int rfl (gd_pos hq) (hS.cell b1 f s (by simp) 8 (by decide))]; exact ⟨rfl, hS⟩) ?_
  simp only [Act.put, List.setIfInBounds_toArray, List.set_cons_zero, List.set_cons_succ]
  refine st_if q2 (.bool p3) (by cases q2 <;> rfl) (by rfl) (fun hq j w _ hS => by rw [op_call1 rfl rfl (gd_pos hq) cf_territory]; exact (c3H.out w).mono fun e w' h => by obtain ⟨rfl, rfl⟩ := h; exact ⟨rfl, hS⟩) ?_
  simp only [Act.put, List.setIfInBounds_toArray, List.set_cons_zero, List.set_cons_succ]
  refine st_val (.bool q3) (by rfl) (by rfl) (fun w => op_pick rfl rfl rfl rfl (by rw [hq3H.out]; cases q2 <;> rfl)) ?_
  simp only [Act.put, List.setIfInBounds_toArray, List.set_cons_zero, List.set_cons_succ]
  refine st_val (.bool q3) (by rfl) (by rfl) (fun w => rfl) ?_
  simp only [Act.put, List.setIfInBounds_toArray, List.set_cons_zero, List.set_cons_succ]
  refine st_if q3 (.pointer (some ⟨b1, 13, none⟩)) (by cases q3 <;> rfl) (by rfl) (fun hq j w _ hS => by rw [op_fa_13 rfl rfl]; exact ⟨rfl, hS⟩) ?_
  simp only [Act.put, List.setIfInBounds_toArray, List.set_cons_zero, List.set_cons_succ]
  refine st_if q3 (.int .i64 (f 13)) (by cases q3 <;> rfl) (by rfl) (fun hq j w _ hS => by rw [op_load_int rfl (gd_pos hq) (hS.cell b1 f s (by simp) 13 (by decide))]; exact ⟨rfl, hS⟩) ?_
  simp only [Act.put, List.setIfInBounds_toArray, List.set_cons_zero, List.set_cons_succ]
  refine st_if q3 (.bool p4) (by cases q3 <;> rfl) (by rfl) (fun hq j w _ hS => by rw [op_call3 rfl rfl (gd_pos hq) rfl rfl cf_within]; exact (c4H.out w).mono fun e w' h => by obtain ⟨rfl, rfl⟩ := h; exact ⟨rfl, hS⟩) ?_
  simp only [Act.put, List.setIfInBounds_toArray, List.set_cons_zero, List.set_cons_succ]
  refine st_val (.bool q4) (by rfl) (by rfl) (fun w => op_pick rfl rfl rfl rfl (by rw [hq4H.out]; cases q3 <;> rfl)) ?_
  simp only [Act.put, List.setIfInBounds_toArray, List.set_cons_zero, List.set_cons_succ]
  refine st_val (.bool q4) (by rfl) (by rfl) (fun w => rfl) ?_
  simp only [Act.put, List.setIfInBounds_toArray, List.set_cons_zero, List.set_cons_succ]
  refine st_if q4 (.pointer (some ⟨b1, 15, none⟩)) (by cases q4 <;> rfl) (by rfl) (fun hq j w _ hS => by rw [op_fa_15 rfl rfl]; exact ⟨rfl, hS⟩) ?_
  simp only [Act.put, List.setIfInBounds_toArray, List.set_cons_zero, List.set_cons_succ]
  refine st_if q4 (.int .i64 (f 15)) (by cases q4 <;> rfl) (by rfl) (fun hq j w _ hS => by rw [op_load_int rfl (gd_pos hq) (hS.cell b1 f s (by simp) 15 (by decide))]; exact ⟨rfl, hS⟩) ?_
  simp only [Act.put, List.setIfInBounds_toArray, List.set_cons_zero, List.set_cons_succ]
  refine st_if q4 (.bool p5) (by cases q4 <;> rfl) (by rfl) (fun hq j w _ hS => by rw [op_call3 rfl rfl (gd_pos hq) rfl rfl cf_within]; exact (c5H.out w).mono fun e w' h => by obtain ⟨rfl, rfl⟩ := h; exact ⟨rfl, hS⟩) ?_
  simp only [Act.put, List.setIfInBounds_toArray, List.set_cons_zero, List.set_cons_succ]
  refine st_val (.bool q5) (by rfl) (by rfl) (fun w => op_pick rfl rfl rfl rfl (by rw [hq5H.out]; cases q4 <;> rfl)) ?_
  simp only [Act.put, List.setIfInBounds_toArray, List.set_cons_zero, List.set_cons_succ]
  refine st_step 0 undef (by rfl) (by rfl) (by decide +kernel) (fun w hS => by rw [op_store_fact rfl rfl rfl (hS.store b3 RW.zeroF (RW.gst (RW.yf f) [(1, f 1), (3, f 3), (8, f 8), (13, f 13), (15, f 15)] 5) ⟨#[]⟩ ⟨#[]⟩ (by simp))]; exact ⟨rfl, hS.put b3 RW.zeroF (RW.gst (RW.yf f) [(1, f 1), (3, f 3), (8, f 8), (13, f 13), (15, f 15)] 5) ⟨#[]⟩ ⟨#[]⟩ (by simp) hle3.out _ hn3.out⟩) ?_
  simp only [Act.put]
  refine st_val (.bool q5) (by rfl) (by rfl) (fun w => rfl) ?_
  simp only [Act.put, List.setIfInBounds_toArray, List.set_cons_zero, List.set_cons_succ]
  refine st_nil ?_
  intro W9 hG9
  replace hG9 : FRows ((b3, RW.gst (RW.yf f) [(1, f 1), (3, f 3), (8, f 8), (13, f 13), (15, f 15)] 5, ⟨#[]⟩) :: [(b2, RW.gst (RW.yf f) [(1, f 1), (3, f 3), (8, f 8), (13, f 13), (15, f 15)] 5, ⟨#[]⟩), (b1, f, s)]) w W9 := hG9
  go_wp2_with fail
  refine bodyPost_ret (fields_results _ _ b3 (RW.fcells (RW.gst (RW.yf f) [(1, f 1), (3, f 3), (8, f 8), (13, f 13), (15, f 15)] 5) ⟨#[]⟩) _ rfl rfl rfl (hG9.rows (b3, RW.gst (RW.yf f) [(1, f 1), (3, f 3), (8, f 8), (13, f 13), (15, f 15)] 5, ⟨#[]⟩) (by simp))) rfl ⟨rfl, hG9.below⟩
end Go.Proofs.YtnlphbfjeekooaaGreatDoor

/-
  Package royaltyref05: rest at its kinds: what it returns; only new memory is written.
-/
import Derived.Test.YtnlphbfjeekooaaGreatDoorRef4
namespace Go.Proofs.YtnlphbfjeekooaaGreatDoor
open Go.RowKit RG
set_option maxRecDepth 100000 in
set_option maxHeartbeats 8000000 in
theorem rrest6 (f g : Nat → Int) (s u : ByteArray) (h0 : f 0 = 6) (w : World) :
    Calls Tryz.prog 90 #[.agg (RW.fcells f s), .agg (RW.fcells g u)] w fun e w' => e = .returned (.tuple #[.agg (RW.fcells (RW.gst g [(5, f 5), (3, f 3), (8, f 8), (13, f 13), (15, f 15)] 5) u), .bool ((((decide (1 ≤ f 5 ∧ f 5 ≤ 1000000) && decide (0 ≤ f 3 ∧ f 3 ≤ 1199)) && decide (0 ≤ f 8 ∧ f 8 ≤ 7)) && decide (0 ≤ f 13 ∧ f 13 ≤ 1000000000)) && decide (0 ≤ f 15 ∧ f 15 ≤ 20))]) ∧ Below w.heap.size w w' := by
  obtain ⟨p1, hp1⟩ : ∃ p, p = decide (1 ≤ f 5 ∧ f 5 ≤ 1000000) := ⟨_, rfl⟩
  have c1 : ∀ W, Calls Tryz.prog 87 #[.int .i64 (f 5)] W fun e w' => e = .returned (.bool p1) ∧ W = w' := fun W => by rw [hp1]; exact rid_any (f 5) W
  obtain ⟨p2, hp2⟩ : ∃ p, p = decide (0 ≤ f 3 ∧ f 3 ≤ 1199) := ⟨_, rfl⟩
  have c2 : ∀ W, Calls Tryz.prog 89 #[.int .i64 (f 3)] W fun e w' => e = .returned (.bool p2) ∧ W = w' := fun W => by rw [hp2]; exact rperiod_any (f 3) W
  obtain ⟨p3, hp3⟩ : ∃ p, p = decide (0 ≤ f 8 ∧ f 8 ≤ 7) := ⟨_, rfl⟩
  have c3 : ∀ W, Calls Tryz.prog 88 #[.int .i64 (f 8)] W fun e w' => e = .returned (.bool p3) ∧ W = w' := fun W => by rw [hp3]; exact rterr_any (f 8) W
  obtain ⟨p4, hp4⟩ : ∃ p, p = decide (0 ≤ f 13 ∧ f 13 ≤ 1000000000) := ⟨_, rfl⟩
  have c4 : ∀ W, Calls Tryz.prog 62 #[.int .i64 (f 13), .int .i64 0, .int .i64 1000000000] W fun e w' => e = .returned (.bool p4) ∧ W = w' := fun W => by rw [hp4]; exact rwithin_any (f 13) 0 1000000000 W
  obtain ⟨p5, hp5⟩ : ∃ p, p = decide (0 ≤ f 15 ∧ f 15 ≤ 20) := ⟨_, rfl⟩
  have c5 : ∀ W, Calls Tryz.prog 62 #[.int .i64 (f 15), .int .i64 0, .int .i64 20] W fun e w' => e = .returned (.bool p5) ∧ W = w' := fun W => by rw [hp5]; exact rwithin_any (f 15) 0 20 W
  rw [← hp1, ← hp2, ← hp3, ← hp4, ← hp5]
  obtain ⟨q2, hq2⟩ : ∃ q, q = (p1 && p2) := ⟨_, rfl⟩
  rw [← hq2]
  obtain ⟨q3, hq3⟩ : ∃ q, q = (q2 && p3) := ⟨_, rfl⟩
  rw [← hq3]
  obtain ⟨q4, hq4⟩ : ∃ q, q = (q3 && p4) := ⟨_, rfl⟩
  rw [← hq4]
  obtain ⟨q5, hq5⟩ : ∃ q, q = (q4 && p5) := ⟨_, rfl⟩
  rw [← hq5]
  have c1H := hide c1
  clear c1
  have hp1H := hide hp1
  clear hp1
  have c2H := hide c2
  clear c2
  have hp2H := hide hp2
  clear hp2
  have hq2H := hide hq2
  clear hq2
  have c3H := hide c3
  clear c3
  have hp3H := hide hp3
  clear hp3
  have hq3H := hide hq3
  clear hq3
  have c4H := hide c4
  clear c4
  have hp4H := hide hp4
  clear hp4
  have hq4H := hide hq4
  clear hq4
  have c5H := hide c5
  clear c5
  have hp5H := hide hp5
  clear hp5
  have hq5H := hide hq5
  clear hq5
  obtain ⟨cs, hcs⟩ : ∃ cs, cs = RW.fcells f s := ⟨_, rfl⟩
  obtain ⟨ds, hds⟩ : ∃ cs, cs = RW.fcells g u := ⟨_, rfl⟩
  rw [← hcs, ← hds]
  have hcsH := hide hcs; have hdsH := hide hds; have h0H := hide h0
  clear hcs hds h0
  go_enter Tryz.func90, Tryz.ntmps90
  go_upto_region 1 with fail
  rw [← fzero]
  obtain ⟨b1, hb1⟩ : ∃ b, b = w.heap.size := ⟨_, rfl⟩
  obtain ⟨b2, hb2⟩ : ∃ b, b = w.heap.size + 1 := ⟨_, rfl⟩
  obtain ⟨b3, hb3⟩ : ∃ b, b = w.heap.size + 1 + 1 := ⟨_, rfl⟩
  have hR := ((FRows.new (FRows.nil (Below.refl w.heap.size w)) f s).new g u).new RW.zeroF ⟨#[]⟩
  rw [show ((w.alloc (.cells (RW.fcells f s) 38)).alloc (.cells (RW.fcells g u) 38)).heap.size = b3 by rw [hb3]; simp, show (w.alloc (.cells (RW.fcells f s) 38)).heap.size = b2 by rw [hb2]; simp, ← hcsH.out, ← hdsH.out, ← hb1] at hR
  rw [← hb1] at ⊢
  rw [show b1 + 1 = b2 by omega]
  rw [show b2 + 1 = b3 by omega]
  have hle2 := hide (show w.heap.size ≤ b2 by omega)
  have hle3 := hide (show w.heap.size ≤ b3 by omega)
  have hbbH := hide (show b1 ≠ b2 ∧ b1 ≠ b3 ∧ b2 ≠ b3 by omega)
  have hne := hide (show ∀ x ∈ [(b1, f, s), (b3, RW.zeroF, (⟨#[]⟩ : ByteArray))], x.1 ≠ b2 by simp; omega)
  refine gen_world (FRows [(b2, g, u), (b1, f, s), (b3, RW.zeroF, ⟨#[]⟩)] w) (hR.sub (by simp)) ?_
  intro W hF
  clear hR hb1 hb2 hb3
  have c0 := hF.cell b1 f s (by simp) 0 (by decide)
  rw [h0H.out] at c0
  go_upto_region 3 with fail
  refine wp_region_staged (fun j => FRows ((b2, (match j with | 0 => RW.gst g [(5, f 5), (3, f 3), (8, f 8), (13, f 13), (15, f 15)] 0 | 1 => RW.gst g [(5, f 5), (3, f 3), (8, f 8), (13, f 13), (15, f 15)] 1 | 2 => RW.gst g [(5, f 5), (3, f 3), (8, f 8), (13, f 13), (15, f 15)] 2 | 3 => RW.gst g [(5, f 5), (3, f 3), (8, f 8), (13, f 13), (15, f 15)] 3 | 4 => RW.gst g [(5, f 5), (3, f 3), (8, f 8), (13, f 13), (15, f 15)] 4 | _ => RW.gst g [(5, f 5), (3, f 3), (8, f 8), (13, f 13), (15, f 15)] 5), (match j with | 0 => u | 1 => u | 2 => u | 3 => u | 4 => u | _ => u)) :: [(b1, f, s), (b3, RW.zeroF, ⟨#[]⟩)]) w) [11, 13, 15, 17, 19] (by kernel_rfl) (by kernel_rfl) (by rfl) hF.drew ?_
  clear hF
  refine st_val (.pointer (some ⟨b1, 5, none⟩)) (by rfl) (by rfl) (fun w => op_fa_5 rfl rfl) ?_
  simp only [Act.put, List.setIfInBounds_toArray, List.set_cons_zero, List.set_cons_succ]
  refine st_op (.int .i64 (f 5)) (by rfl) (by rfl) (fun j w _ hS => by rw [op_load_int rfl rfl (hS.cell b1 f s (by simp) 5 (by decide))]; exact ⟨rfl, hS⟩) ?_
  simp only [Act.put, List.setIfInBounds_toArray, List.set_cons_zero, List.set_cons_succ]
  refine st_val (.pointer (some ⟨b1, 3, none⟩)) (by rfl) (by rfl) (fun w => op_fa_3 rfl rfl) ?_
  simp only [Act.put, List.setIfInBounds_toArray, List.set_cons_zero, List.set_cons_succ]
  refine st_op (.int .i64 (f 3)) (by rfl) (by rfl) (fun j w _ hS => by rw [op_load_int rfl rfl (hS.cell b1 f s (by simp) 3 (by decide))]; exact ⟨rfl, hS⟩) ?_
  simp only [Act.put, List.setIfInBounds_toArray, List.set_cons_zero, List.set_cons_succ]
  refine st_val (.pointer (some ⟨b1, 8, none⟩)) (by rfl) (by rfl) (fun w => op_fa_8 rfl rfl) ?_
  simp only [Act.put, List.setIfInBounds_toArray, List.set_cons_zero, List.set_cons_succ]
  refine st_op (.int .i64 (f 8)) (by rfl) (by rfl) (fun j w _ hS => by rw [op_load_int rfl rfl (hS.cell b1 f s (by simp) 8 (by decide))]; exact ⟨rfl, hS⟩) ?_
  simp only [Act.put, List.setIfInBounds_toArray, List.set_cons_zero, List.set_cons_succ]
  refine st_val (.pointer (some ⟨b1, 13, none⟩)) (by rfl) (by rfl) (fun w => op_fa_13 rfl rfl) ?_
  simp only [Act.put, List.setIfInBounds_toArray, List.set_cons_zero, List.set_cons_succ]
  refine st_op (.int .i64 (f 13)) (by rfl) (by rfl) (fun j w _ hS => by rw [op_load_int rfl rfl (hS.cell b1 f s (by simp) 13 (by decide))]; exact ⟨rfl, hS⟩) ?_
  simp only [Act.put, List.setIfInBounds_toArray, List.set_cons_zero, List.set_cons_succ]
  refine st_val (.pointer (some ⟨b1, 15, none⟩)) (by rfl) (by rfl) (fun w => op_fa_15 rfl rfl) ?_
  simp only [Act.put, List.setIfInBounds_toArray, List.set_cons_zero, List.set_cons_succ]
  refine st_op (.int .i64 (f 15)) (by rfl) (by rfl) (fun j w _ hS => by rw [op_load_int rfl rfl (hS.cell b1 f s (by simp) 15 (by decide))]; exact ⟨rfl, hS⟩) ?_
  simp only [Act.put, List.setIfInBounds_toArray, List.set_cons_zero, List.set_cons_succ]
  refine st_val (.pointer (some ⟨b2, 5, none⟩)) (by rfl) (by rfl) (fun w => op_fa_5 rfl rfl) ?_
  simp only [Act.put, List.setIfInBounds_toArray, List.set_cons_zero, List.set_cons_succ]
  refine st_step 0 undef (by rfl) (by rfl) (by decide +kernel) (fun w hS => by rw [op_store_int rfl rfl rfl (hS.cell b2 (RW.gst g [(5, f 5), (3, f 3), (8, f 8), (13, f 13), (15, f 15)] 0) u (by simp) 5 (by decide)) (hS.unfrozen b2 (RW.gst g [(5, f 5), (3, f 3), (8, f 8), (13, f 13), (15, f 15)] 0) u (by simp) 5)]; exact ⟨rfl, hS.set hle2.out hne.out 5 (by decide) (f 5)⟩) ?_
  simp only [Act.put]
  refine st_val (.pointer (some ⟨b2, 3, none⟩)) (by rfl) (by rfl) (fun w => op_fa_3 rfl rfl) ?_
  simp only [Act.put, List.setIfInBounds_toArray, List.set_cons_zero, List.set_cons_succ]
  refine st_step 1 undef (by rfl) (by rfl) (by decide +kernel) (fun w hS => by rw [op_store_int rfl rfl rfl (hS.cell b2 (RW.gst g [(5, f 5), (3, f 3), (8, f 8), (13, f 13), (15, f 15)] 1) u (by simp) 3 (by decide)) (hS.unfrozen b2 (RW.gst g [(5, f 5), (3, f 3), (8, f 8), (13, f 13), (15, f 15)] 1) u (by simp) 3)]; exact ⟨rfl, hS.set hle2.out hne.out 3 (by decide) (f 3)⟩) ?_
  simp only [Act.put]
  refine st_val (.pointer (some ⟨b2, 8, none⟩)) (by rfl) (by rfl) (fun w => op_fa_8 rfl rfl) ?_
  simp only [Act.put, List.setIfInBounds_toArray, List.set_cons_zero, List.set_cons_succ]
  refine st_step 2 undef (by rfl) (by rfl) (by decide +kernel) (fun w hS => by rw [op_store_int rfl rfl rfl (hS.cell b2 (RW.gst g [(5, f 5), (3, f 3), (8, f 8), (13, f 13), (15, f 15)] 2) u (by simp) 8 (by decide)) (hS.unfrozen b2 (RW.gst g [(5, f 5), (3, f 3), (8, f 8), (13, f 13), (15, f 15)] 2) u (by simp) 8)]; exact ⟨rfl, hS.set hle2.out hne.out 8 (by decide) (f 8)⟩) ?_
  simp only [Act.put]
  refine st_val (.pointer (some ⟨b2, 13, none⟩)) (by rfl) (by rfl) (fun w => op_fa_13 rfl rfl) ?_
  simp only [Act.put, List.setIfInBounds_toArray, List.set_cons_zero, List.set_cons_succ]
  refine st_step 3 undef (by rfl) (by rfl) (by decide +kernel) (fun w hS => by rw [op_store_int rfl rfl rfl (hS.cell b2 (RW.gst g [(5, f 5), (3, f 3), (8, f 8), (13, f 13), (15, f 15)] 3) u (by simp) 13 (by decide)) (hS.unfrozen b2 (RW.gst g [(5, f 5), (3, f 3), (8, f 8), (13, f 13), (15, f 15)] 3) u (by simp) 13)]; exact ⟨rfl, hS.set hle2.out hne.out 13 (by decide) (f 13)⟩) ?_
  simp only [Act.put]
  refine st_val (.pointer (some ⟨b2, 15, none⟩)) (by rfl) (by rfl) (fun w => op_fa_15 rfl rfl) ?_
  simp only [Act.put, List.setIfInBounds_toArray, List.set_cons_zero, List.set_cons_succ]
  refine st_step 4 undef (by rfl) (by rfl) (by decide +kernel) (fun w hS => by rw [op_store_int rfl rfl rfl (hS.cell b2 (RW.gst g [(5, f 5), (3, f 3), (8, f 8), (13, f 13), (15, f 15)] 4) u (by simp) 15 (by decide)) (hS.unfrozen b2 (RW.gst g [(5, f 5), (3, f 3), (8, f 8), (13, f 13), (15, f 15)] 4) u (by simp) 15)]; exact ⟨rfl, hS.set hle2.out hne.out 15 (by decide) (f 15)⟩) ?_
  simp only [Act.put]
  refine st_nil ?_
  intro W1 hG1
  replace hG1 : FRows ((b2, RW.gst g [(5, f 5), (3, f 3), (8, f 8), (13, f 13), (15, f 15)] 5, u) :: [(b1, f, s), (b3, RW.zeroF, ⟨#[]⟩)]) w W1 := hG1
  go_upto_region 4 with fail
  refine wp_region_staged (fun j => FRows ((b3, (match j with | 0 => RW.zeroF | _ => RW.gst g [(5, f 5), (3, f 3), (8, f 8), (13, f 13), (15, f 15)] 5), (match j with | 0 => ⟨#[]⟩ | _ => u)) :: [(b2, RW.gst g [(5, f 5), (3, f 3), (8, f 8), (13, f 13), (15, f 15)] 5, u), (b1, f, s)]) w) [24] (by kernel_rfl) (by kernel_rfl) (by rfl) (hG1.sub (l' := (b3, RW.zeroF, ⟨#[]⟩) :: [(b2, RW.gst g [(5, f 5), (3, f 3), (8, f 8), (13, f 13), (15, f 15)] 5, u), (b1, f, s)]) (by simp)).drew ?_
  clear hG1
  have hn3 := hide (show ∀ x ∈ (b3, RW.gst g [(5, f 5), (3, f 3), (8, f 8), (13, f 13), (15, f 15)] 5, u) :: [(b2, RW.gst g [(5, f 5), (3, f 3), (8, f 8), (13, f 13), (15, f 15)] 5, u), (b1, f, s)], x = (b3, RW.gst g [(5, f 5), (3, f 3), (8, f 8), (13, f 13), (15, f 15)] 5, u) ∨ (x ∈ (b3, RW.zeroF, (⟨#[]⟩ : ByteArray)) :: [(b2, RW.gst g [(5, f 5), (3, f 3), (8, f 8), (13, f 13), (15, f 15)] 5, u), (b1, f, s)] ∧ x.1 ≠ b3) by have := hbbH.out; simp; omega)
  refine st_op (.agg (RW.fcells (RW.gst g [(5, f 5), (3, f 3), (8, f 8), (13, f 13), (15, f 15)] 5) u)) (by rfl) (by rfl) (fun j w _ hS => by rw [op_load_fact rfl rfl (hS.load b2 (RW.gst g [(5, f 5), (3, f 3), (8, f 8), (13, f 13), (15, f 15)] 5) u (by simp))]; exact ⟨rfl, hS⟩) ?_
  simp only [Act.put, List.setIfInBounds_toArray, List.set_cons_zero, List.set_cons_succ]
  refine st_op (.pointer (some ⟨b1, 5, none⟩)) (by rfl) (by rfl) (fun j w _ hS => by rw [op_fa_5 rfl rfl]; exact ⟨rfl, hS⟩) ?_
  simp only [Act.put, List.setIfInBounds_toArray, List.set_cons_zero, List.set_cons_succ]
  refine st_op (.int .i64 (f 5)) (by rfl) (by rfl) (fun j w _ hS => by rw [op_load_int rfl rfl (hS.cell b1 f s (by simp) 5 (by decide))]; exact ⟨rfl, hS⟩) ?_
  simp only [Act.put, List.setIfInBounds_toArray, List.set_cons_zero, List.set_cons_succ]
  refine st_op (.bool p1) (by rfl) (by rfl) (fun j w _ hS => by rw [op_call1 rfl rfl rfl cf_id]; exact (c1H.out w).mono fun e w' h => by obtain ⟨rfl, rfl⟩ := h; exact ⟨rfl, hS⟩) ?_
  simp only [Act.put, List.setIfInBounds_toArray, List.set_cons_zero, List.set_cons_succ]
  refine st_val (.bool p1) (by rfl) (by rfl) (fun w => rfl) ?_
  simp only [Act.put, List.setIfInBounds_toArray, List.set_cons_zero, List.set_cons_succ]
  refine st_if p1 (.pointer (some ⟨b1, 3, none⟩)) (by cases p1 <;> rfl) (by rfl) (fun hq j w _ hS => by rw [op_fa_3 rfl rfl]; exact ⟨rfl, hS⟩) ?_
  simp only [Act.put, List.setIfInBounds_toArray, List.set_cons_zero, List.set_cons_succ]
  refine st_if p1 (.int .i64 (f 3)) (by cases p1 <;> rfl) (by rfl) (fun hq j w _ hS => by rw [op_load_int rfl (gd_pos hq) (hS.cell b1 f s (by simp) 3 (by decide))]; exact ⟨rfl, hS⟩) ?_
  simp only [Act.put, List.setIfInBounds_toArray, List.set_cons_zero, List.set_cons_succ]
  refine st_if p1 (.bool p2) (by cases p1 <;> rfl) (by rfl) (fun hq j w _ hS => by rw [op_call1 rfl rfl (gd_pos hq) cf_period]; exact (c2H.out w).mono fun e w' h => by obtain ⟨rfl, rfl⟩ := h; exact ⟨rfl, hS⟩) ?_
  simp only [Act.put, List.setIfInBounds_toArray, List.set_cons_zero, List.set_cons_succ]
  refine st_val (.bool q2) (by rfl) (by rfl) (fun w => op_pick rfl rfl rfl rfl (by rw [hq2H.out]; cases p1 <;> rfl)) ?_
  simp only [Act.put, List.setIfInBounds_toArray, List.set_cons_zero, List.set_cons_succ]
  refine st_val (.bool q2) (by rfl) (by rfl) (fun w => rfl) ?_
  simp only [Act.put, List.setIfInBounds_toArray, List.set_cons_zero, List.set_cons_succ]
  refine st_if q2 (.pointer (some ⟨b1, 8, none⟩)) (by cases q2 <;> rfl) (by rfl) (fun hq j w _ hS => by rw [op_fa_8 rfl rfl]; exact ⟨rfl, hS⟩) ?_
  simp only [Act.put, List.setIfInBounds_toArray, List.set_cons_zero, List.set_cons_succ]
  refine st_if q2 (.int .i64 (f 8)) (by cases q2 <;> rfl) (by rfl) (fun hq j w _ hS => by rw [op_load_int rfl (gd_pos hq) (hS.cell b1 f s (by simp) 8 (by decide))]; exact ⟨rfl, hS⟩) ?_
  simp only [Act.put, List.setIfInBounds_toArray, List.set_cons_zero, List.set_cons_succ]
  refine st_if q2 (.bool p3) (by cases q2 <;> rfl) (by rfl) (fun hq j w _ hS => by rw [op_call1 rfl rfl (gd_pos hq) cf_territory]; exact (c3H.out w).mono fun e w' h => by obtain ⟨rfl, rfl⟩ := h; exact ⟨rfl, hS⟩) ?_
  simp only [Act.put, List.setIfInBounds_toArray, List.set_cons_zero, List.set_cons_succ]
  refine st_val (.bool q3) (by rfl) (by rfl) (fun w => op_pick rfl rfl rfl rfl (by rw [hq3H.out]; cases q2 <;> rfl)) ?_
  simp only [Act.put, List.setIfInBounds_toArray, List.set_cons_zero, List.set_cons_succ]
  refine st_val (.bool q3) (by rfl) (by rfl) (fun w => rfl) ?_
  simp only [Act.put, List.setIfInBounds_toArray, List.set_cons_zero, List.set_cons_succ]
  refine st_if q3 (.pointer (some ⟨b1, 13, none⟩)) (by cases q3 <;> rfl) (by rfl) (fun hq j w _ hS => by rw [op_fa_13 rfl rfl]; exact ⟨rfl, hS⟩) ?_
  simp only [Act.put, List.setIfInBounds_toArray, List.set_cons_zero, List.set_cons_succ]
  refine st_if q3 (.int .i64 (f 13)) (by cases q3 <;> rfl) (by rfl) (fun hq j w _ hS => by rw [op_load_int rfl (gd_pos hq) (hS.cell b1 f s (by simp) 13 (by decide))]; exact ⟨rfl, hS⟩) ?_
  simp only [Act.put, List.setIfInBounds_toArray, List.set_cons_zero, List.set_cons_succ]
  refine st_if q3 (.bool p4) (by cases q3 <;> rfl) (by rfl) (fun hq j w _ hS => by rw [op_call3 rfl rfl (gd_pos hq) rfl rfl cf_within]; exact (c4H.out w).mono fun e w' h => by obtain ⟨rfl, rfl⟩ := h; exact ⟨rfl, hS⟩) ?_
  simp only [Act.put, List.setIfInBounds_toArray, List.set_cons_zero, List.set_cons_succ]
  refine st_val (.bool q4) (by rfl) (by rfl) (fun w => op_pick rfl rfl rfl rfl (by rw [hq4H.out]; cases q3 <;> rfl)) ?_
  simp only [Act.put, List.setIfInBounds_toArray, List.set_cons_zero, List.set_cons_succ]
  refine st_val (.bool q4) (by rfl) (by rfl) (fun w => rfl) ?_
  simp only [Act.put, List.setIfInBounds_toArray, List.set_cons_zero, List.set_cons_succ]
  refine st_if q4 (.pointer (some ⟨b1, 15, none⟩)) (by cases q4 <;> rfl) (by rfl) (fun hq j w _ hS => by rw [op_fa_15 rfl rfl]; exact ⟨rfl, hS⟩) ?_
  simp only [Act.put, List.setIfInBounds_toArray, List.set_cons_zero, List.set_cons_succ]
  refine st_if q4 (.int .i64 (f 15)) (by cases q4 <;> rfl) (by rfl) (fun hq j w _ hS => by rw [op_load_int rfl (gd_pos hq) (hS.cell b1 f s (by simp) 15 (by decide))]; exact ⟨rfl, hS⟩) ?_
  simp only [Act.put, List.setIfInBounds_toArray, List.set_cons_zero, List.set_cons_succ]
  refine st_if q4 (.bool p5) (by cases q4 <;> rfl) (by rfl) (fun hq j w _ hS => by rw [op_call3 rfl rfl (gd_pos hq) rfl rfl cf_within]; exact (c5H.out w).mono fun e w' h => by obtain ⟨rfl, rfl⟩ := h; exact ⟨rfl, hS⟩) ?_
  simp only [Act.put, List.setIfInBounds_toArray, List.set_cons_zero, List.set_cons_succ]
  refine st_val (.bool q5) (by rfl) (by rfl) (fun w => op_pick rfl rfl rfl rfl (by rw [hq5H.out]; cases q4 <;> rfl)) ?_
  simp only [Act.put, List.setIfInBounds_toArray, List.set_cons_zero, List.set_cons_succ]
  refine st_step 0 undef (by rfl) (by rfl) (by decide +kernel) (fun w hS => by rw [op_store_fact rfl rfl rfl (hS.store b3 RW.zeroF (RW.gst g [(5, f 5), (3, f 3), (8, f 8), (13, f 13), (15, f 15)] 5) ⟨#[]⟩ u (by simp))]; exact ⟨rfl, hS.put b3 RW.zeroF (RW.gst g [(5, f 5), (3, f 3), (8, f 8), (13, f 13), (15, f 15)] 5) ⟨#[]⟩ u (by simp) hle3.out _ hn3.out⟩) ?_
  simp only [Act.put]
  refine st_val (.bool q5) (by rfl) (by rfl) (fun w => rfl) ?_
  simp only [Act.put, List.setIfInBounds_toArray, List.set_cons_zero, List.set_cons_succ]
  refine st_nil ?_
  intro W9 hG9
  replace hG9 : FRows ((b3, RW.gst g [(5, f 5), (3, f 3), (8, f 8), (13, f 13), (15, f 15)] 5, u) :: [(b2, RW.gst g [(5, f 5), (3, f 3), (8, f 8), (13, f 13), (15, f 15)] 5, u), (b1, f, s)]) w W9 := hG9
  go_wp2_with fail
  refine bodyPost_ret (rest_results _ _ b3 (RW.fcells (RW.gst g [(5, f 5), (3, f 3), (8, f 8), (13, f 13), (15, f 15)] 5) u) _ rfl rfl rfl (hG9.rows (b3, RW.gst g [(5, f 5), (3, f 3), (8, f 8), (13, f 13), (15, f 15)] 5, u) (by simp))) rfl ⟨rfl, hG9.below⟩
set_option maxRecDepth 100000 in
set_option maxHeartbeats 8000000 in
theorem rrest7 (f g : Nat → Int) (s u : ByteArray) (h0 : f 0 = 7) (w : World) :
    Calls Tryz.prog 90 #[.agg (RW.fcells f s), .agg (RW.fcells g u)] w fun e w' => e = .returned (.tuple #[.agg (RW.fcells (RW.gst g [(15, f 15), (3, f 3), (13, f 13)] 3) u), .bool ((decide (1 ≤ f 15 ∧ f 15 ≤ 20) && decide (0 ≤ f 3 ∧ f 3 ≤ 1199)) && decide (1 ≤ f 13 ∧ f 13 ≤ 10000000))]) ∧ Below w.heap.size w w' := by
  obtain ⟨p1, hp1⟩ : ∃ p, p = decide (1 ≤ f 15 ∧ f 15 ≤ 20) := ⟨_, rfl⟩
  have c1 : ∀ W, Calls Tryz.prog 62 #[.int .i64 (f 15), .int .i64 1, .int .i64 20] W fun e w' => e = .returned (.bool p1) ∧ W = w' := fun W => by rw [hp1]; exact rwithin_any (f 15) 1 20 W
  obtain ⟨p2, hp2⟩ : ∃ p, p = decide (0 ≤ f 3 ∧ f 3 ≤ 1199) := ⟨_, rfl⟩
  have c2 : ∀ W, Calls Tryz.prog 89 #[.int .i64 (f 3)] W fun e w' => e = .returned (.bool p2) ∧ W = w' := fun W => by rw [hp2]; exact rperiod_any (f 3) W
  obtain ⟨p3, hp3⟩ : ∃ p, p = decide (1 ≤ f 13 ∧ f 13 ≤ 10000000) := ⟨_, rfl⟩
  have c3 : ∀ W, Calls Tryz.prog 62 #[.int .i64 (f 13), .int .i64 1, .int .i64 10000000] W fun e w' => e = .returned (.bool p3) ∧ W = w' := fun W => by rw [hp3]; exact rwithin_any (f 13) 1 10000000 W
  rw [← hp1, ← hp2, ← hp3]
  obtain ⟨q2, hq2⟩ : ∃ q, q = (p1 && p2) := ⟨_, rfl⟩
  rw [← hq2]
  obtain ⟨q3, hq3⟩ : ∃ q, q = (q2 && p3) := ⟨_, rfl⟩
  rw [← hq3]
  have c1H := hide c1
  clear c1
  have hp1H := hide hp1
  clear hp1
  have c2H := hide c2
  clear c2
  have hp2H := hide hp2
  clear hp2
  have hq2H := hide hq2
  clear hq2
  have c3H := hide c3
  clear c3
  have hp3H := hide hp3
  clear hp3
  have hq3H := hide hq3
  clear hq3
  obtain ⟨cs, hcs⟩ : ∃ cs, cs = RW.fcells f s := ⟨_, rfl⟩
  obtain ⟨ds, hds⟩ : ∃ cs, cs = RW.fcells g u := ⟨_, rfl⟩
  rw [← hcs, ← hds]
  have hcsH := hide hcs; have hdsH := hide hds; have h0H := hide h0
  clear hcs hds h0
  go_enter Tryz.func90, Tryz.ntmps90
  go_upto_region 1 with fail
  rw [← fzero]
  obtain ⟨b1, hb1⟩ : ∃ b, b = w.heap.size := ⟨_, rfl⟩
  obtain ⟨b2, hb2⟩ : ∃ b, b = w.heap.size + 1 := ⟨_, rfl⟩
  obtain ⟨b3, hb3⟩ : ∃ b, b = w.heap.size + 1 + 1 := ⟨_, rfl⟩
  have hR := ((FRows.new (FRows.nil (Below.refl w.heap.size w)) f s).new g u).new RW.zeroF ⟨#[]⟩
  rw [show ((w.alloc (.cells (RW.fcells f s) 38)).alloc (.cells (RW.fcells g u) 38)).heap.size = b3 by rw [hb3]; simp, show (w.alloc (.cells (RW.fcells f s) 38)).heap.size = b2 by rw [hb2]; simp, ← hcsH.out, ← hdsH.out, ← hb1] at hR
  rw [← hb1] at ⊢
  rw [show b1 + 1 = b2 by omega]
  rw [show b2 + 1 = b3 by omega]
  have hle2 := hide (show w.heap.size ≤ b2 by omega)
  have hle3 := hide (show w.heap.size ≤ b3 by omega)
  have hbbH := hide (show b1 ≠ b2 ∧ b1 ≠ b3 ∧ b2 ≠ b3 by omega)
  have hne := hide (show ∀ x ∈ [(b1, f, s), (b3, RW.zeroF, (⟨#[]⟩ : ByteArray))], x.1 ≠ b2 by simp; omega)
  refine gen_world (FRows [(b2, g, u), (b1, f, s), (b3, RW.zeroF, ⟨#[]⟩)] w) (hR.sub (by simp)) ?_
  intro W hF
  clear hR hb1 hb2 hb3
  have c0 := hF.cell b1 f s (by simp) 0 (by decide)
  rw [h0H.out] at c0
  go_upto_region 6 with fail
  refine wp_region_staged (fun j => FRows ((b2, (match j with | 0 => RW.gst g [(15, f 15), (3, f 3), (13, f 13)] 0 | 1 => RW.gst g [(15, f 15), (3, f 3), (13, f 13)] 1 | 2 => RW.gst g [(15, f 15), (3, f 3), (13, f 13)] 2 | _ => RW.gst g [(15, f 15), (3, f 3), (13, f 13)] 3), (match j with | 0 => u | 1 => u | 2 => u | _ => u)) :: [(b1, f, s), (b3, RW.zeroF, ⟨#[]⟩)]) w) [7, 9, 11] (by kernel_rfl) (by kernel_rfl) (by rfl) hF.drew ?_
  clear hF
  refine st_val (.pointer (some ⟨b1, 15, none⟩)) (by rfl) (by rfl) (fun w => op_fa_15 rfl rfl) ?_
  simp only [Act.put, List.setIfInBounds_toArray, List.set_cons_zero, List.set_cons_succ]
  refine st_op (.int .i64 (f 15)) (by rfl) (by rfl) (fun j w _ hS => by rw [op_load_int rfl rfl (hS.cell b1 f s (by simp) 15 (by decide))]; exact ⟨rfl, hS⟩) ?_
  simp only [Act.put, List.setIfInBounds_toArray, List.set_cons_zero, List.set_cons_succ]
  refine st_val (.pointer (some ⟨b1, 3, none⟩)) (by rfl) (by rfl) (fun w => op_fa_3 rfl rfl) ?_
  simp only [Act.put, List.setIfInBounds_toArray, List.set_cons_zero, List.set_cons_succ]
  refine st_op (.int .i64 (f 3)) (by rfl) (by rfl) (fun j w _ hS => by rw [op_load_int rfl rfl (hS.cell b1 f s (by simp) 3 (by decide))]; exact ⟨rfl, hS⟩) ?_
  simp only [Act.put, List.setIfInBounds_toArray, List.set_cons_zero, List.set_cons_succ]
  refine st_val (.pointer (some ⟨b1, 13, none⟩)) (by rfl) (by rfl) (fun w => op_fa_13 rfl rfl) ?_
  simp only [Act.put, List.setIfInBounds_toArray, List.set_cons_zero, List.set_cons_succ]
  refine st_op (.int .i64 (f 13)) (by rfl) (by rfl) (fun j w _ hS => by rw [op_load_int rfl rfl (hS.cell b1 f s (by simp) 13 (by decide))]; exact ⟨rfl, hS⟩) ?_
  simp only [Act.put, List.setIfInBounds_toArray, List.set_cons_zero, List.set_cons_succ]
  refine st_val (.pointer (some ⟨b2, 15, none⟩)) (by rfl) (by rfl) (fun w => op_fa_15 rfl rfl) ?_
  simp only [Act.put, List.setIfInBounds_toArray, List.set_cons_zero, List.set_cons_succ]
  refine st_step 0 undef (by rfl) (by rfl) (by decide +kernel) (fun w hS => by rw [op_store_int rfl rfl rfl (hS.cell b2 (RW.gst g [(15, f 15), (3, f 3), (13, f 13)] 0) u (by simp) 15 (by decide)) (hS.unfrozen b2 (RW.gst g [(15, f 15), (3, f 3), (13, f 13)] 0) u (by simp) 15)]; exact ⟨rfl, hS.set hle2.out hne.out 15 (by decide) (f 15)⟩) ?_
  simp only [Act.put]
  refine st_val (.pointer (some ⟨b2, 3, none⟩)) (by rfl) (by rfl) (fun w => op_fa_3 rfl rfl) ?_
  simp only [Act.put, List.setIfInBounds_toArray, List.set_cons_zero, List.set_cons_succ]
  refine st_step 1 undef (by rfl) (by rfl) (by decide +kernel) (fun w hS => by rw [op_store_int rfl rfl rfl (hS.cell b2 (RW.gst g [(15, f 15), (3, f 3), (13, f 13)] 1) u (by simp) 3 (by decide)) (hS.unfrozen b2 (RW.gst g [(15, f 15), (3, f 3), (13, f 13)] 1) u (by simp) 3)]; exact ⟨rfl, hS.set hle2.out hne.out 3 (by decide) (f 3)⟩) ?_
  simp only [Act.put]
  refine st_val (.pointer (some ⟨b2, 13, none⟩)) (by rfl) (by rfl) (fun w => op_fa_13 rfl rfl) ?_
  simp only [Act.put, List.setIfInBounds_toArray, List.set_cons_zero, List.set_cons_succ]
  refine st_step 2 undef (by rfl) (by rfl) (by decide +kernel) (fun w hS => by rw [op_store_int rfl rfl rfl (hS.cell b2 (RW.gst g [(15, f 15), (3, f 3), (13, f 13)] 2) u (by simp) 13 (by decide)) (hS.unfrozen b2 (RW.gst g [(15, f 15), (3, f 3), (13, f 13)] 2) u (by simp) 13)]; exact ⟨rfl, hS.set hle2.out hne.out 13 (by decide) (f 13)⟩) ?_
  simp only [Act.put]
  refine st_nil ?_
  intro W1 hG1
  replace hG1 : FRows ((b2, RW.gst g [(15, f 15), (3, f 3), (13, f 13)] 3, u) :: [(b1, f, s), (b3, RW.zeroF, ⟨#[]⟩)]) w W1 := hG1
  go_upto_region 7 with fail
  refine wp_region_staged (fun j => FRows ((b3, (match j with | 0 => RW.zeroF | _ => RW.gst g [(15, f 15), (3, f 3), (13, f 13)] 3), (match j with | 0 => ⟨#[]⟩ | _ => u)) :: [(b2, RW.gst g [(15, f 15), (3, f 3), (13, f 13)] 3, u), (b1, f, s)]) w) [14] (by kernel_rfl) (by kernel_rfl) (by rfl) (hG1.sub (l' := (b3, RW.zeroF, ⟨#[]⟩) :: [(b2, RW.gst g [(15, f 15), (3, f 3), (13, f 13)] 3, u), (b1, f, s)]) (by simp)).drew ?_
  clear hG1
  have hn3 := hide (show ∀ x ∈ (b3, RW.gst g [(15, f 15), (3, f 3), (13, f 13)] 3, u) :: [(b2, RW.gst g [(15, f 15), (3, f 3), (13, f 13)] 3, u), (b1, f, s)], x = (b3, RW.gst g [(15, f 15), (3, f 3), (13, f 13)] 3, u) ∨ (x ∈ (b3, RW.zeroF, (⟨#[]⟩ : ByteArray)) :: [(b2, RW.gst g [(15, f 15), (3, f 3), (13, f 13)] 3, u), (b1, f, s)] ∧ x.1 ≠ b3) by have := hbbH.out; simp; omega)
  refine st_op (.agg (RW.fcells (RW.gst g [(15, f 15), (3, f 3), (13, f 13)] 3) u)) (by rfl) (by rfl) (fun j w _ hS => by rw [op_load_fact rfl rfl (hS.load b2 (RW.gst g [(15, f 15), (3, f 3), (13, f 13)] 3) u (by simp))]; exact ⟨rfl, hS⟩) ?_
  simp only [Act.put, List.setIfInBounds_toArray, List.set_cons_zero, List.set_cons_succ]
  refine st_op (.pointer (some ⟨b1, 15, none⟩)) (by rfl) (by rfl) (fun j w _ hS => by rw [op_fa_15 rfl rfl]; exact ⟨rfl, hS⟩) ?_
  simp only [Act.put, List.setIfInBounds_toArray, List.set_cons_zero, List.set_cons_succ]
  refine st_op (.int .i64 (f 15)) (by rfl) (by rfl) (fun j w _ hS => by rw [op_load_int rfl rfl (hS.cell b1 f s (by simp) 15 (by decide))]; exact ⟨rfl, hS⟩) ?_
  simp only [Act.put, List.setIfInBounds_toArray, List.set_cons_zero, List.set_cons_succ]
  refine st_op (.bool p1) (by rfl) (by rfl) (fun j w _ hS => by rw [op_call3 rfl rfl rfl rfl rfl cf_within]; exact (c1H.out w).mono fun e w' h => by obtain ⟨rfl, rfl⟩ := h; exact ⟨rfl, hS⟩) ?_
  simp only [Act.put, List.setIfInBounds_toArray, List.set_cons_zero, List.set_cons_succ]
  refine st_val (.bool p1) (by rfl) (by rfl) (fun w => rfl) ?_
  simp only [Act.put, List.setIfInBounds_toArray, List.set_cons_zero, List.set_cons_succ]
  refine st_if p1 (.pointer (some ⟨b1, 3, none⟩)) (by cases p1 <;> rfl) (by rfl) (fun hq j w _ hS => by rw [op_fa_3 rfl rfl]; exact ⟨rfl, hS⟩) ?_
  simp only [Act.put, List.setIfInBounds_toArray, List.set_cons_zero, List.set_cons_succ]
  refine st_if p1 (.int .i64 (f 3)) (by cases p1 <;> rfl) (by rfl) (fun hq j w _ hS => by rw [op_load_int rfl (gd_pos hq) (hS.cell b1 f s (by simp) 3 (by decide))]; exact ⟨rfl, hS⟩) ?_
  simp only [Act.put, List.setIfInBounds_toArray, List.set_cons_zero, List.set_cons_succ]
  refine st_if p1 (.bool p2) (by cases p1 <;> rfl) (by rfl) (fun hq j w _ hS => by rw [op_call1 rfl rfl (gd_pos hq) cf_period]; exact (c2H.out w).mono fun e w' h => by obtain ⟨rfl, rfl⟩ := h; exact ⟨rfl, hS⟩) ?_
  simp only [Act.put, List.setIfInBounds_toArray, List.set_cons_zero, List.set_cons_succ]
  refine st_val (.bool q2) (by rfl) (by rfl) (fun w => op_pick rfl rfl rfl rfl (by rw [hq2H.out]; cases p1 <;> rfl)) ?_
  simp only [Act.put, List.setIfInBounds_toArray, List.set_cons_zero, List.set_cons_succ]
  refine st_val (.bool q2) (by rfl) (by rfl) (fun w => rfl) ?_
  simp only [Act.put, List.setIfInBounds_toArray, List.set_cons_zero, List.set_cons_succ]
  refine st_if q2 (.pointer (some ⟨b1, 13, none⟩)) (by cases q2 <;> rfl) (by rfl) (fun hq j w _ hS => by rw [op_fa_13 rfl rfl]; exact ⟨rfl, hS⟩) ?_
  simp only [Act.put, List.setIfInBounds_toArray, List.set_cons_zero, List.set_cons_succ]
  refine st_if q2 (.int .i64 (f 13)) (by cases q2 <;> rfl) (by rfl) (fun hq j w _ hS => by rw [op_load_int rfl (gd_pos hq) (hS.cell b1 f s (by simp) 13 (by decide))]; exact ⟨rfl, hS⟩) ?_
  simp only [Act.put, List.setIfInBounds_toArray, List.set_cons_zero, List.set_cons_succ]
  refine st_if q2 (.bool p3) (by cases q2 <;> rfl) (by rfl) (fun hq j w _ hS => by rw [op_call3 rfl rfl (gd_pos hq) rfl rfl cf_within]; exact (c3H.out w).mono fun e w' h => by obtain ⟨rfl, rfl⟩ := h; exact ⟨rfl, hS⟩) ?_
  simp only [Act.put, List.setIfInBounds_toArray, List.set_cons_zero, List.set_cons_succ]
  refine st_val (.bool q3) (by rfl) (by rfl) (fun w => op_pick rfl rfl rfl rfl (by rw [hq3H.out]; cases q2 <;> rfl)) ?_
  simp only [Act.put, List.setIfInBounds_toArray, List.set_cons_zero, List.set_cons_succ]
  refine st_step 0 undef (by rfl) (by rfl) (by decide +kernel) (fun w hS => by rw [op_store_fact rfl rfl rfl (hS.store b3 RW.zeroF (RW.gst g [(15, f 15), (3, f 3), (13, f 13)] 3) ⟨#[]⟩ u (by simp))]; exact ⟨rfl, hS.put b3 RW.zeroF (RW.gst g [(15, f 15), (3, f 3), (13, f 13)] 3) ⟨#[]⟩ u (by simp) hle3.out _ hn3.out⟩) ?_
  simp only [Act.put]
  refine st_val (.bool q3) (by rfl) (by rfl) (fun w => rfl) ?_
  simp only [Act.put, List.setIfInBounds_toArray, List.set_cons_zero, List.set_cons_succ]
  refine st_nil ?_
  intro W9 hG9
  replace hG9 : FRows ((b3, RW.gst g [(15, f 15), (3, f 3), (13, f 13)] 3, u) :: [(b2, RW.gst g [(15, f 15), (3, f 3), (13, f 13)] 3, u), (b1, f, s)]) w W9 := hG9
  go_wp2_with fail
  refine bodyPost_ret (rest_results _ _ b3 (RW.fcells (RW.gst g [(15, f 15), (3, f 3), (13, f 13)] 3) u) _ rfl rfl rfl (hG9.rows (b3, RW.gst g [(15, f 15), (3, f 3), (13, f 13)] 3, u) (by simp))) rfl ⟨rfl, hG9.below⟩
set_option maxRecDepth 100000 in
set_option maxHeartbeats 8000000 in
theorem rrest8 (f g : Nat → Int) (s u : ByteArray) (h0 : f 0 = 8) (w : World) :
    Calls Tryz.prog 90 #[.agg (RW.fcells f s), .agg (RW.fcells g u)] w fun e w' => e = .returned (.tuple #[.agg (RW.fcells (RW.gst g [(1, f 1), (5, f 5), (3, f 3), (13, f 13)] 4) u), .bool (((decide (1 ≤ f 1 ∧ f 1 ≤ 1000000) && decide (1 ≤ f 5 ∧ f 5 ≤ 1000)) && decide (0 ≤ f 3 ∧ f 3 ≤ 1199)) && decide (0 ≤ f 13 ∧ f 13 ≤ 100000000000))]) ∧ Below w.heap.size w w' := by
  obtain ⟨p1, hp1⟩ : ∃ p, p = decide (1 ≤ f 1 ∧ f 1 ≤ 1000000) := ⟨_, rfl⟩
  have c1 : ∀ W, Calls Tryz.prog 87 #[.int .i64 (f 1)] W fun e w' => e = .returned (.bool p1) ∧ W = w' := fun W => by rw [hp1]; exact rid_any (f 1) W
  obtain ⟨p2, hp2⟩ : ∃ p, p = decide (1 ≤ f 5 ∧ f 5 ≤ 1000) := ⟨_, rfl⟩
  have c2 : ∀ W, Calls Tryz.prog 62 #[.int .i64 (f 5), .int .i64 1, .int .i64 1000] W fun e w' => e = .returned (.bool p2) ∧ W = w' := fun W => by rw [hp2]; exact rwithin_any (f 5) 1 1000 W
  obtain ⟨p3, hp3⟩ : ∃ p, p = decide (0 ≤ f 3 ∧ f 3 ≤ 1199) := ⟨_, rfl⟩
  have c3 : ∀ W, Calls Tryz.prog 89 #[.int .i64 (f 3)] W fun e w' => e = .returned (.bool p3) ∧ W = w' := fun W => by rw [hp3]; exact rperiod_any (f 3) W
  obtain ⟨p4, hp4⟩ : ∃ p, p = decide (0 ≤ f 13 ∧ f 13 ≤ 100000000000) := ⟨_, rfl⟩
  have c4 : ∀ W, Calls Tryz.prog 62 #[.int .i64 (f 13), .int .i64 0, .int .i64 100000000000] W fun e w' => e = .returned (.bool p4) ∧ W = w' := fun W => by rw [hp4]; exact rwithin_any (f 13) 0 100000000000 W
  rw [← hp1, ← hp2, ← hp3, ← hp4]
  obtain ⟨q2, hq2⟩ : ∃ q, q = (p1 && p2) := ⟨_, rfl⟩
  rw [← hq2]
  obtain ⟨q3, hq3⟩ : ∃ q, q = (q2 && p3) := ⟨_, rfl⟩
  rw [← hq3]
  obtain ⟨q4, hq4⟩ : ∃ q, q = (q3 && p4) := ⟨_, rfl⟩
  rw [← hq4]
  have c1H := hide c1
  clear c1
  have hp1H := hide hp1
  clear hp1
  have c2H := hide c2
  clear c2
  have hp2H := hide hp2
  clear hp2
  have hq2H := hide hq2
  clear hq2
  have c3H := hide c3
  clear c3
  have hp3H := hide hp3
  clear hp3
  have hq3H := hide hq3
  clear hq3
  have c4H := hide c4
  clear c4
  have hp4H := hide hp4
  clear hp4
  have hq4H := hide hq4
  clear hq4
  obtain ⟨cs, hcs⟩ : ∃ cs, cs = RW.fcells f s := ⟨_, rfl⟩
  obtain ⟨ds, hds⟩ : ∃ cs, cs = RW.fcells g u := ⟨_, rfl⟩
  rw [← hcs, ← hds]
  have hcsH := hide hcs; have hdsH := hide hds; have h0H := hide h0
  clear hcs hds h0
  go_enter Tryz.func90, Tryz.ntmps90
  go_upto_region 1 with fail
  rw [← fzero]
  obtain ⟨b1, hb1⟩ : ∃ b, b = w.heap.size := ⟨_, rfl⟩
  obtain ⟨b2, hb2⟩ : ∃ b, b = w.heap.size + 1 := ⟨_, rfl⟩
  obtain ⟨b3, hb3⟩ : ∃ b, b = w.heap.size + 1 + 1 := ⟨_, rfl⟩
  have hR := ((FRows.new (FRows.nil (Below.refl w.heap.size w)) f s).new g u).new RW.zeroF ⟨#[]⟩
  rw [show ((w.alloc (.cells (RW.fcells f s) 38)).alloc (.cells (RW.fcells g u) 38)).heap.size = b3 by rw [hb3]; simp, show (w.alloc (.cells (RW.fcells f s) 38)).heap.size = b2 by rw [hb2]; simp, ← hcsH.out, ← hdsH.out, ← hb1] at hR
  rw [← hb1] at ⊢
  rw [show b1 + 1 = b2 by omega]
  rw [show b2 + 1 = b3 by omega]
  have hle2 := hide (show w.heap.size ≤ b2 by omega)
  have hle3 := hide (show w.heap.size ≤ b3 by omega)
  have hbbH := hide (show b1 ≠ b2 ∧ b1 ≠ b3 ∧ b2 ≠ b3 by omega)
  have hne := hide (show ∀ x ∈ [(b1, f, s), (b3, RW.zeroF, (⟨#[]⟩ : ByteArray))], x.1 ≠ b2 by simp; omega)
  refine gen_world (FRows [(b2, g, u), (b1, f, s), (b3, RW.zeroF, ⟨#[]⟩)] w) (hR.sub (by simp)) ?_
  intro W hF
  clear hR hb1 hb2 hb3
  have c0 := hF.cell b1 f s (by simp) 0 (by decide)
  rw [h0H.out] at c0
  go_upto_region 9 with fail
  refine wp_region_staged (fun j => FRows ((b2, (match j with | 0 => RW.gst g [(1, f 1), (5, f 5), (3, f 3), (13, f 13)] 0 | 1 => RW.gst g [(1, f 1), (5, f 5), (3, f 3), (13, f 13)] 1 | 2 => RW.gst g [(1, f 1), (5, f 5), (3, f 3), (13, f 13)] 2 | 3 => RW.gst g [(1, f 1), (5, f 5), (3, f 3), (13, f 13)] 3 | _ => RW.gst g [(1, f 1), (5, f 5), (3, f 3), (13, f 13)] 4), (match j with | 0 => u | 1 => u | 2 => u | 3 => u | _ => u)) :: [(b1, f, s), (b3, RW.zeroF, ⟨#[]⟩)]) w) [9, 11, 13, 15] (by kernel_rfl) (by kernel_rfl) (by rfl) hF.drew ?_
  clear hF
  refine st_val (.pointer (some ⟨b1, 1, none⟩)) (by rfl) (by rfl) (fun w => op_fa_1 rfl rfl) ?_
  simp only [Act.put, List.setIfInBounds_toArray, List.set_cons_zero, List.set_cons_succ]
  refine st_op (.int .i64 (f 1)) (by rfl) (by rfl) (fun j w _ hS => by rw [op_load_int rfl rfl (hS.cell b1 f s (by simp) 1 (by decide))]; exact ⟨rfl, hS⟩) ?_
  simp only [Act.put, List.setIfInBounds_toArray, List.set_cons_zero, List.set_cons_succ]
  refine st_val (.pointer (some ⟨b1, 5, none⟩)) (by rfl) (by rfl) (fun w => op_fa_5 rfl rfl) ?_
  simp only [Act.put, List.setIfInBounds_toArray, List.set_cons_zero, List.set_cons_succ]
  refine st_op (.int .i64 (f 5)) (by rfl) (by rfl) (fun j w _ hS => by rw [op_load_int rfl rfl (hS.cell b1 f s (by simp) 5 (by decide))]; exact ⟨rfl, hS⟩) ?_
  simp only [Act.put, List.setIfInBounds_toArray, List.set_cons_zero, List.set_cons_succ]
  refine st_val (.pointer (some ⟨b1, 3, none⟩)) (by rfl) (by rfl) (fun w => op_fa_3 rfl rfl) ?_
  simp only [Act.put, List.setIfInBounds_toArray, List.set_cons_zero, List.set_cons_succ]
  refine st_op (.int .i64 (f 3)) (by rfl) (by rfl) (fun j w _ hS => by rw [op_load_int rfl rfl (hS.cell b1 f s (by simp) 3 (by decide))]; exact ⟨rfl, hS⟩) ?_
  simp only [Act.put, List.setIfInBounds_toArray, List.set_cons_zero, List.set_cons_succ]
  refine st_val (.pointer (some ⟨b1, 13, none⟩)) (by rfl) (by rfl) (fun w => op_fa_13 rfl rfl) ?_
  simp only [Act.put, List.setIfInBounds_toArray, List.set_cons_zero, List.set_cons_succ]
  refine st_op (.int .i64 (f 13)) (by rfl) (by rfl) (fun j w _ hS => by rw [op_load_int rfl rfl (hS.cell b1 f s (by simp) 13 (by decide))]; exact ⟨rfl, hS⟩) ?_
  simp only [Act.put, List.setIfInBounds_toArray, List.set_cons_zero, List.set_cons_succ]
  refine st_val (.pointer (some ⟨b2, 1, none⟩)) (by rfl) (by rfl) (fun w => op_fa_1 rfl rfl) ?_
  simp only [Act.put, List.setIfInBounds_toArray, List.set_cons_zero, List.set_cons_succ]
  refine st_step 0 undef (by rfl) (by rfl) (by decide +kernel) (fun w hS => by rw [op_store_int rfl rfl rfl (hS.cell b2 (RW.gst g [(1, f 1), (5, f 5), (3, f 3), (13, f 13)] 0) u (by simp) 1 (by decide)) (hS.unfrozen b2 (RW.gst g [(1, f 1), (5, f 5), (3, f 3), (13, f 13)] 0) u (by simp) 1)]; exact ⟨rfl, hS.set hle2.out hne.out 1 (by decide) (f 1)⟩) ?_
  simp only [Act.put]
  refine st_val (.pointer (some ⟨b2, 5, none⟩)) (by rfl) (by rfl) (fun w => op_fa_5 rfl rfl) ?_
  simp only [Act.put, List.setIfInBounds_toArray, List.set_cons_zero, List.set_cons_succ]
  refine st_step 1 undef (by rfl) (by rfl) (by decide +kernel) (fun w hS => by rw [op_store_int rfl rfl rfl (hS.cell b2 (RW.gst g [(1, f 1), (5, f 5), (3, f 3), (13, f 13)] 1) u (by simp) 5 (by decide)) (hS.unfrozen b2 (RW.gst g [(1, f 1), (5, f 5), (3, f 3), (13, f 13)] 1) u (by simp) 5)]; exact ⟨rfl, hS.set hle2.out hne.out 5 (by decide) (f 5)⟩) ?_
  simp only [Act.put]
  refine st_val (.pointer (some ⟨b2, 3, none⟩)) (by rfl) (by rfl) (fun w => op_fa_3 rfl rfl) ?_
  simp only [Act.put, List.setIfInBounds_toArray, List.set_cons_zero, List.set_cons_succ]
  refine st_step 2 undef (by rfl) (by rfl) (by decide +kernel) (fun w hS => by rw [op_store_int rfl rfl rfl (hS.cell b2 (RW.gst g [(1, f 1), (5, f 5), (3, f 3), (13, f 13)] 2) u (by simp) 3 (by decide)) (hS.unfrozen b2 (RW.gst g [(1, f 1), (5, f 5), (3, f 3), (13, f 13)] 2) u (by simp) 3)]; exact ⟨rfl, hS.set hle2.out hne.out 3 (by decide) (f 3)⟩) ?_
  simp only [Act.put]
  refine st_val (.pointer (some ⟨b2, 13, none⟩)) (by rfl) (by rfl) (fun w => op_fa_13 rfl rfl) ?_
  simp only [Act.put, List.setIfInBounds_toArray, List.set_cons_zero, List.set_cons_succ]
  refine st_step 3 undef (by rfl) (by rfl) (by decide +kernel) (fun w hS => by rw [op_store_int rfl rfl rfl (hS.cell b2 (RW.gst g [(1, f 1), (5, f 5), (3, f 3), (13, f 13)] 3) u (by simp) 13 (by decide)) (hS.unfrozen b2 (RW.gst g [(1, f 1), (5, f 5), (3, f 3), (13, f 13)] 3) u (by simp) 13)]; exact ⟨rfl, hS.set hle2.out hne.out 13 (by decide) (f 13)⟩) ?_
  simp only [Act.put]
  refine st_nil ?_
  intro W1 hG1
  replace hG1 : FRows ((b2, RW.gst g [(1, f 1), (5, f 5), (3, f 3), (13, f 13)] 4, u) :: [(b1, f, s), (b3, RW.zeroF, ⟨#[]⟩)]) w W1 := hG1
  go_upto_region 10 with fail
  refine wp_region_staged (fun j => FRows ((b3, (match j with | 0 => RW.zeroF | _ => RW.gst g [(1, f 1), (5, f 5), (3, f 3), (13, f 13)] 4), (match j with | 0 => ⟨#[]⟩ | _ => u)) :: [(b2, RW.gst g [(1, f 1), (5, f 5), (3, f 3), (13, f 13)] 4, u), (b1, f, s)]) w) [19] (by kernel_rfl) (by kernel_rfl) (by rfl) (hG1.sub (l' := (b3, RW.zeroF, ⟨#[]⟩) :: [(b2, RW.gst g [(1, f 1), (5, f 5), (3, f 3), (13, f 13)] 4, u), (b1, f, s)]) (by simp)).drew ?_
  clear hG1
  have hn3 := hide (show ∀ x ∈ (b3, RW.gst g [(1, f 1), (5, f 5), (3, f 3), (13, f 13)] 4, u) :: [(b2, RW.gst g [(1, f 1), (5, f 5), (3, f 3), (13, f 13)] 4, u), (b1, f, s)], x = (b3, RW.gst g [(1, f 1), (5, f 5), (3, f 3), (13, f 13)] 4, u) ∨ (x ∈ (b3, RW.zeroF, (⟨#[]⟩ : ByteArray)) :: [(b2, RW.gst g [(1, f 1), (5, f 5), (3, f 3), (13, f 13)] 4, u), (b1, f, s)] ∧ x.1 ≠ b3) by have := hbbH.out; simp; omega)
  refine st_op (.agg (RW.fcells (RW.gst g [(1, f 1), (5, f 5), (3, f 3), (13, f 13)] 4) u)) (by rfl) (by rfl) (fun j w _ hS => by rw [op_load_fact rfl rfl (hS.load b2 (RW.gst g [(1, f 1), (5, f 5), (3, f 3), (13, f 13)] 4) u (by simp))]; exact ⟨rfl, hS⟩) ?_
  simp only [Act.put, List.setIfInBounds_toArray, List.set_cons_zero, List.set_cons_succ]
  refine st_op (.pointer (some ⟨b1, 1, none⟩)) (by rfl) (by rfl) (fun j w _ hS => by rw [op_fa_1 rfl rfl]; exact ⟨rfl, hS⟩) ?_
  simp only [Act.put, List.setIfInBounds_toArray, List.set_cons_zero, List.set_cons_succ]
  refine st_op (.int .i64 (f 1)) (by rfl) (by rfl) (fun j w _ hS => by rw [op_load_int rfl rfl (hS.cell b1 f s (by simp) 1 (by decide))]; exact ⟨rfl, hS⟩) ?_
  simp only [Act.put, List.setIfInBounds_toArray, List.set_cons_zero, List.set_cons_succ]
  refine st_op (.bool p1) (by rfl) (by rfl) (fun j w _ hS => by rw [op_call1 rfl rfl rfl cf_id]; exact (c1H.out w).mono fun e w' h => by obtain ⟨rfl, rfl⟩ := h; exact ⟨rfl, hS⟩) ?_
  simp only [Act.put, List.setIfInBounds_toArray, List.set_cons_zero, List.set_cons_succ]
  refine st_val (.bool p1) (by rfl) (by rfl) (fun w => rfl) ?_
  simp only [Act.put, List.setIfInBounds_toArray, List.set_cons_zero, List.set_cons_succ]
  refine st_if p1 (.pointer (some ⟨b1, 5, none⟩)) (by cases p1 <;> rfl) (by rfl) (fun hq j w _ hS => by rw [op_fa_5 rfl rfl]; exact ⟨rfl, hS⟩) ?_
  simp only [Act.put, List.setIfInBounds_toArray, List.set_cons_zero, List.set_cons_succ]
  refine st_if p1 (.int .i64 (f 5)) (by cases p1 <;> rfl) (by rfl) (fun hq j w _ hS => by rw [op_load_int rfl (gd_pos hq) (hS.cell b1 f s (by simp) 5 (by decide))]; exact ⟨rfl, hS⟩) ?_
  simp only [Act.put, List.setIfInBounds_toArray, List.set_cons_zero, List.set_cons_succ]
  refine st_if p1 (.bool p2) (by cases p1 <;> rfl) (by rfl) (fun hq j w _ hS => by rw [op_call3 rfl rfl (gd_pos hq) rfl rfl cf_within]; exact (c2H.out w).mono fun e w' h => by obtain ⟨rfl, rfl⟩ := h; exact ⟨rfl, hS⟩) ?_
  simp only [Act.put, List.setIfInBounds_toArray, List.set_cons_zero, List.set_cons_succ]
  refine st_val (.bool q2) (by rfl) (by rfl) (fun w => op_pick rfl rfl rfl rfl (by rw [hq2H.out]; cases p1 <;> rfl)) ?_
  simp only [Act.put, List.setIfInBounds_toArray, List.set_cons_zero, List.set_cons_succ]
  refine st_val (.bool q2) (by rfl) (by rfl) (fun w => rfl) ?_
  simp only [Act.put, List.setIfInBounds_toArray, List.set_cons_zero, List.set_cons_succ]
  refine st_if q2 (.pointer (some ⟨b1, 3, none⟩)) (by cases q2 <;> rfl) (by rfl) (fun hq j w _ hS => by rw [op_fa_3 rfl rfl]; exact ⟨rfl, hS⟩) ?_
  simp only [Act.put, List.setIfInBounds_toArray, List.set_cons_zero, List.set_cons_succ]
  refine st_if q2 (.int .i64 (f 3)) (by cases q2 <;> rfl) (by rfl) (fun hq j w _ hS => by rw [op_load_int rfl (gd_pos hq) (hS.cell b1 f s (by simp) 3 (by decide))]; exact ⟨rfl, hS⟩) ?_
  simp only [Act.put, List.setIfInBounds_toArray, List.set_cons_zero, List.set_cons_succ]
  refine st_if q2 (.bool p3) (by cases q2 <;> rfl) (by rfl) (fun hq j w _ hS => by rw [op_call1 rfl rfl (gd_pos hq) cf_period]; exact (c3H.out w).mono fun e w' h => by obtain ⟨rfl, rfl⟩ := h; exact ⟨rfl, hS⟩) ?_
  simp only [Act.put, List.setIfInBounds_toArray, List.set_cons_zero, List.set_cons_succ]
  refine st_val (.bool q3) (by rfl) (by rfl) (fun w => op_pick rfl rfl rfl rfl (by rw [hq3H.out]; cases q2 <;> rfl)) ?_
  simp only [Act.put, List.setIfInBounds_toArray, List.set_cons_zero, List.set_cons_succ]
  refine st_val (.bool q3) (by rfl) (by rfl) (fun w => rfl) ?_
  simp only [Act.put, List.setIfInBounds_toArray, List.set_cons_zero, List.set_cons_succ]
  refine st_if q3 (.pointer (some ⟨b1, 13, none⟩)) (by cases q3 <;> rfl) (by rfl) (fun hq j w _ hS => by rw [op_fa_13 rfl rfl]; exact ⟨rfl, hS⟩) ?_
  simp only [Act.put, List.setIfInBounds_toArray, List.set_cons_zero, List.set_cons_succ]
  refine st_if q3 (.int .i64 (f 13)) (by cases q3 <;> rfl) (by rfl) (fun hq j w _ hS => by rw [op_load_int rfl (gd_pos hq) (hS.cell b1 f s (by simp) 13 (by decide))]; exact ⟨rfl, hS⟩) ?_
  simp only [Act.put, List.setIfInBounds_toArray, List.set_cons_zero, List.set_cons_succ]
  refine st_if q3 (.bool p4) (by cases q3 <;> rfl) (by rfl) (fun hq j w _ hS => by rw [op_call3 rfl rfl (gd_pos hq) rfl rfl cf_within]; exact (c4H.out w).mono fun e w' h => by obtain ⟨rfl, rfl⟩ := h; exact ⟨rfl, hS⟩) ?_
  simp only [Act.put, List.setIfInBounds_toArray, List.set_cons_zero, List.set_cons_succ]
  refine st_val (.bool q4) (by rfl) (by rfl) (fun w => op_pick rfl rfl rfl rfl (by rw [hq4H.out]; cases q3 <;> rfl)) ?_
  simp only [Act.put, List.setIfInBounds_toArray, List.set_cons_zero, List.set_cons_succ]
  refine st_step 0 undef (by rfl) (by rfl) (by decide +kernel) (fun w hS => by rw [op_store_fact rfl rfl rfl (hS.store b3 RW.zeroF (RW.gst g [(1, f 1), (5, f 5), (3, f 3), (13, f 13)] 4) ⟨#[]⟩ u (by simp))]; exact ⟨rfl, hS.put b3 RW.zeroF (RW.gst g [(1, f 1), (5, f 5), (3, f 3), (13, f 13)] 4) ⟨#[]⟩ u (by simp) hle3.out _ hn3.out⟩) ?_
  simp only [Act.put]
  refine st_val (.bool q4) (by rfl) (by rfl) (fun w => rfl) ?_
  simp only [Act.put, List.setIfInBounds_toArray, List.set_cons_zero, List.set_cons_succ]
  refine st_nil ?_
  intro W9 hG9
  replace hG9 : FRows ((b3, RW.gst g [(1, f 1), (5, f 5), (3, f 3), (13, f 13)] 4, u) :: [(b2, RW.gst g [(1, f 1), (5, f 5), (3, f 3), (13, f 13)] 4, u), (b1, f, s)]) w W9 := hG9
  go_wp2_with fail
  refine bodyPost_ret (rest_results _ _ b3 (RW.fcells (RW.gst g [(1, f 1), (5, f 5), (3, f 3), (13, f 13)] 4) u) _ rfl rfl rfl (hG9.rows (b3, RW.gst g [(1, f 1), (5, f 5), (3, f 3), (13, f 13)] 4, u) (by simp))) rfl ⟨rfl, hG9.below⟩
set_option maxRecDepth 100000 in
set_option maxHeartbeats 8000000 in
theorem rrest9 (f g : Nat → Int) (s u : ByteArray) (h0 : f 0 = 9) (hs : s.size ≤ 9223372036854775807) (w : World) :
    Calls Tryz.prog 90 #[.agg (RW.fcells f s), .agg (RW.fcells g u)] w fun e w' => e = .returned (.tuple #[.agg (RW.fcells (RW.gst g [(11, f 11)] 1) s), .bool (decide (0 ≤ f 11 ∧ f 11 ≤ 1199) && decide ((s.size : Int) ≤ 2000))]) ∧ Below w.heap.size w w' := by
  obtain ⟨p1, hp1⟩ : ∃ p, p = decide (0 ≤ f 11 ∧ f 11 ≤ 1199) := ⟨_, rfl⟩
  have c1 : ∀ W, Calls Tryz.prog 89 #[.int .i64 (f 11)] W fun e w' => e = .returned (.bool p1) ∧ W = w' := fun W => by rw [hp1]; exact rperiod_any (f 11) W
  obtain ⟨p2, hp2⟩ : ∃ p, p = decide ((s.size : Int) ≤ 2000) := ⟨_, rfl⟩
  rw [← hp1, ← hp2]
  obtain ⟨q2, hq2⟩ : ∃ q, q = (p1 && p2) := ⟨_, rfl⟩
  rw [← hq2]
  have c1H := hide c1
  clear c1
  have hp1H := hide hp1
  clear hp1
  have hp2H := hide hp2
  clear hp2
  have hq2H := hide hq2
  clear hq2
  obtain ⟨cs, hcs⟩ : ∃ cs, cs = RW.fcells f s := ⟨_, rfl⟩
  obtain ⟨ds, hds⟩ : ∃ cs, cs = RW.fcells g u := ⟨_, rfl⟩
  rw [← hcs, ← hds]
  have hcsH := hide hcs; have hdsH := hide hds; have h0H := hide h0
  clear hcs hds h0
  go_enter Tryz.func90, Tryz.ntmps90
  go_upto_region 1 with fail
  rw [← fzero]
  obtain ⟨b1, hb1⟩ : ∃ b, b = w.heap.size := ⟨_, rfl⟩
  obtain ⟨b2, hb2⟩ : ∃ b, b = w.heap.size + 1 := ⟨_, rfl⟩
  obtain ⟨b3, hb3⟩ : ∃ b, b = w.heap.size + 1 + 1 := ⟨_, rfl⟩
  have hR := ((FRows.new (FRows.nil (Below.refl w.heap.size w)) f s).new g u).new RW.zeroF ⟨#[]⟩
  rw [show ((w.alloc (.cells (RW.fcells f s) 38)).alloc (.cells (RW.fcells g u) 38)).heap.size = b3 by rw [hb3]; simp, show (w.alloc (.cells (RW.fcells f s) 38)).heap.size = b2 by rw [hb2]; simp, ← hcsH.out, ← hdsH.out, ← hb1] at hR
  rw [← hb1] at ⊢
  rw [show b1 + 1 = b2 by omega]
  rw [show b2 + 1 = b3 by omega]
  have hle2 := hide (show w.heap.size ≤ b2 by omega)
  have hle3 := hide (show w.heap.size ≤ b3 by omega)
  have hbbH := hide (show b1 ≠ b2 ∧ b1 ≠ b3 ∧ b2 ≠ b3 by omega)
  have hne := hide (show ∀ x ∈ [(b1, f, s), (b3, RW.zeroF, (⟨#[]⟩ : ByteArray))], x.1 ≠ b2 by simp; omega)
  refine gen_world (FRows [(b2, g, u), (b1, f, s), (b3, RW.zeroF, ⟨#[]⟩)] w) (hR.sub (by simp)) ?_
  intro W hF
  clear hR hb1 hb2 hb3
  have c0 := hF.cell b1 f s (by simp) 0 (by decide)
  rw [h0H.out] at c0
  go_upto_region 12 with fail
  refine wp_region_staged (fun j => FRows ((b2, (match j with | 0 => RW.gst g [(11, f 11)] 0 | 1 => RW.gst g [(11, f 11)] 1 | _ => RW.gst g [(11, f 11)] 1), (match j with | 0 => u | 1 => u | _ => s)) :: [(b1, f, s), (b3, RW.zeroF, ⟨#[]⟩)]) w) [5, 7] (by kernel_rfl) (by kernel_rfl) (by rfl) hF.drew ?_
  clear hF
  refine st_val (.pointer (some ⟨b1, 11, none⟩)) (by rfl) (by rfl) (fun w => op_fa_11 rfl rfl) ?_
  simp only [Act.put, List.setIfInBounds_toArray, List.set_cons_zero, List.set_cons_succ]
  refine st_op (.int .i64 (f 11)) (by rfl) (by rfl) (fun j w _ hS => by rw [op_load_int rfl rfl (hS.cell b1 f s (by simp) 11 (by decide))]; exact ⟨rfl, hS⟩) ?_
  simp only [Act.put, List.setIfInBounds_toArray, List.set_cons_zero, List.set_cons_succ]
  refine st_val (.pointer (some ⟨b1, 17, none⟩)) (by rfl) (by rfl) (fun w => op_fa_17 rfl rfl) ?_
  simp only [Act.put, List.setIfInBounds_toArray, List.set_cons_zero, List.set_cons_succ]
  refine st_op (.string s) (by rfl) (by rfl) (fun j w _ hS => by rw [op_load_str rfl rfl (hS.text b1 f s (by simp))]; exact ⟨rfl, hS⟩) ?_
  simp only [Act.put, List.setIfInBounds_toArray, List.set_cons_zero, List.set_cons_succ]
  refine st_val (.pointer (some ⟨b2, 11, none⟩)) (by rfl) (by rfl) (fun w => op_fa_11 rfl rfl) ?_
  simp only [Act.put, List.setIfInBounds_toArray, List.set_cons_zero, List.set_cons_succ]
  refine st_step 0 undef (by rfl) (by rfl) (by decide +kernel) (fun w hS => by rw [op_store_int rfl rfl rfl (hS.cell b2 (RW.gst g [(11, f 11)] 0) u (by simp) 11 (by decide)) (hS.unfrozen b2 (RW.gst g [(11, f 11)] 0) u (by simp) 11)]; exact ⟨rfl, hS.set hle2.out hne.out 11 (by decide) (f 11)⟩) ?_
  simp only [Act.put]
  refine st_val (.pointer (some ⟨b2, 17, none⟩)) (by rfl) (by rfl) (fun w => op_fa_17 rfl rfl) ?_
  simp only [Act.put, List.setIfInBounds_toArray, List.set_cons_zero, List.set_cons_succ]
  refine st_step 1 undef (by rfl) (by rfl) (by decide +kernel) (fun w hS => by rw [op_store_str rfl rfl rfl (hS.text b2 (RW.gst g [(11, f 11)] 1) u (by simp)) (hS.unfrozen b2 (RW.gst g [(11, f 11)] 1) u (by simp) 17)]; exact ⟨rfl, hS.settext hle2.out hne.out s⟩) ?_
  simp only [Act.put]
  refine st_nil ?_
  intro W1 hG1
  replace hG1 : FRows ((b2, RW.gst g [(11, f 11)] 1, s) :: [(b1, f, s), (b3, RW.zeroF, ⟨#[]⟩)]) w W1 := hG1
  go_upto_region 13 with fail
  refine wp_region_staged (fun j => FRows ((b3, (match j with | 0 => RW.zeroF | _ => RW.gst g [(11, f 11)] 1), (match j with | 0 => ⟨#[]⟩ | _ => s)) :: [(b2, RW.gst g [(11, f 11)] 1, s), (b1, f, s)]) w) [10] (by kernel_rfl) (by kernel_rfl) (by rfl) (hG1.sub (l' := (b3, RW.zeroF, ⟨#[]⟩) :: [(b2, RW.gst g [(11, f 11)] 1, s), (b1, f, s)]) (by simp)).drew ?_
  clear hG1
  have hn3 := hide (show ∀ x ∈ (b3, RW.gst g [(11, f 11)] 1, s) :: [(b2, RW.gst g [(11, f 11)] 1, s), (b1, f, s)], x = (b3, RW.gst g [(11, f 11)] 1, s) ∨ (x ∈ (b3, RW.zeroF, (⟨#[]⟩ : ByteArray)) :: [(b2, RW.gst g [(11, f 11)] 1, s), (b1, f, s)] ∧ x.1 ≠ b3) by have := hbbH.out; simp; omega)
  refine st_op (.agg (RW.fcells (RW.gst g [(11, f 11)] 1) s)) (by rfl) (by rfl) (fun j w _ hS => by rw [op_load_fact rfl rfl (hS.load b2 (RW.gst g [(11, f 11)] 1) s (by simp))]; exact ⟨rfl, hS⟩) ?_
  simp only [Act.put, List.setIfInBounds_toArray, List.set_cons_zero, List.set_cons_succ]
  refine st_op (.pointer (some ⟨b1, 11, none⟩)) (by rfl) (by rfl) (fun j w _ hS => by rw [op_fa_11 rfl rfl]; exact ⟨rfl, hS⟩) ?_
  simp only [Act.put, List.setIfInBounds_toArray, List.set_cons_zero, List.set_cons_succ]
  refine st_op (.int .i64 (f 11)) (by rfl) (by rfl) (fun j w _ hS => by rw [op_load_int rfl rfl (hS.cell b1 f s (by simp) 11 (by decide))]; exact ⟨rfl, hS⟩) ?_
  simp only [Act.put, List.setIfInBounds_toArray, List.set_cons_zero, List.set_cons_succ]
  refine st_op (.bool p1) (by rfl) (by rfl) (fun j w _ hS => by rw [op_call1 rfl rfl rfl cf_period]; exact (c1H.out w).mono fun e w' h => by obtain ⟨rfl, rfl⟩ := h; exact ⟨rfl, hS⟩) ?_
  simp only [Act.put, List.setIfInBounds_toArray, List.set_cons_zero, List.set_cons_succ]
  refine st_val (.bool p1) (by rfl) (by rfl) (fun w => rfl) ?_
  simp only [Act.put, List.setIfInBounds_toArray, List.set_cons_zero, List.set_cons_succ]
  refine st_if p1 (.pointer (some ⟨b1, 17, none⟩)) (by cases p1 <;> rfl) (by rfl) (fun hq j w _ hS => by rw [op_fa_17 rfl rfl]; exact ⟨rfl, hS⟩) ?_
  simp only [Act.put, List.setIfInBounds_toArray, List.set_cons_zero, List.set_cons_succ]
  refine st_if p1 (.string s) (by cases p1 <;> rfl) (by rfl) (fun hq j w _ hS => by rw [op_load_str rfl (gd_pos hq) (hS.text b1 f s (by simp))]; exact ⟨rfl, hS⟩) ?_
  simp only [Act.put, List.setIfInBounds_toArray, List.set_cons_zero, List.set_cons_succ]
  refine st_if p1 (.int .i64 s.size) (by cases p1 <;> rfl) (by rfl) (fun hq j w _ hS => by rw [op_len rfl (gd_pos hq) hs]; exact ⟨rfl, hS⟩) ?_
  simp only [Act.put, List.setIfInBounds_toArray, List.set_cons_zero, List.set_cons_succ]
  refine st_if p1 (.bool p2) (by cases p1 <;> rfl) (by rfl) (fun hq j w _ hS => by rw [op_leq rfl (gd_pos hq) rfl, ← hp2H.out]; exact ⟨rfl, hS⟩) ?_
  simp only [Act.put, List.setIfInBounds_toArray, List.set_cons_zero, List.set_cons_succ]
  refine st_val (.bool q2) (by rfl) (by rfl) (fun w => op_pick rfl rfl rfl rfl (by rw [hq2H.out]; cases p1 <;> rfl)) ?_
  simp only [Act.put, List.setIfInBounds_toArray, List.set_cons_zero, List.set_cons_succ]
  refine st_step 0 undef (by rfl) (by rfl) (by decide +kernel) (fun w hS => by rw [op_store_fact rfl rfl rfl (hS.store b3 RW.zeroF (RW.gst g [(11, f 11)] 1) ⟨#[]⟩ s (by simp))]; exact ⟨rfl, hS.put b3 RW.zeroF (RW.gst g [(11, f 11)] 1) ⟨#[]⟩ s (by simp) hle3.out _ hn3.out⟩) ?_
  simp only [Act.put]
  refine st_val (.bool q2) (by rfl) (by rfl) (fun w => rfl) ?_
  simp only [Act.put, List.setIfInBounds_toArray, List.set_cons_zero, List.set_cons_succ]
  refine st_nil ?_
  intro W9 hG9
  replace hG9 : FRows ((b3, RW.gst g [(11, f 11)] 1, s) :: [(b2, RW.gst g [(11, f 11)] 1, s), (b1, f, s)]) w W9 := hG9
  go_wp2_with fail
  refine bodyPost_ret (rest_results _ _ b3 (RW.fcells (RW.gst g [(11, f 11)] 1) s) _ rfl rfl rfl (hG9.rows (b3, RW.gst g [(11, f 11)] 1, s) (by simp))) rfl ⟨rfl, hG9.below⟩
set_option maxRecDepth 100000 in
set_option maxHeartbeats 8000000 in
theorem rrest10 (f g : Nat → Int) (s u : ByteArray) (h0 : f 0 = 10) (w : World) :
    Calls Tryz.prog 90 #[.agg (RW.fcells f s), .agg (RW.fcells g u)] w fun e w' => e = .returned (.tuple #[.agg (RW.fcells (RW.gst g [(8, f 8), (11, f 11), (16, f 16)] 3) u), .bool ((decide (0 ≤ f 8 ∧ f 8 ≤ 7) && decide (0 ≤ f 11 ∧ f 11 ≤ 1199)) && decide (1 ≤ f 16 ∧ f 16 ≤ 2))]) ∧ Below w.heap.size w w' := by
  obtain ⟨p1, hp1⟩ : ∃ p, p = decide (0 ≤ f 8 ∧ f 8 ≤ 7) := ⟨_, rfl⟩
  have c1 : ∀ W, Calls Tryz.prog 88 #[.int .i64 (f 8)] W fun e w' => e = .returned (.bool p1) ∧ W = w' := fun W => by rw [hp1]; exact rterr_any (f 8) W
  obtain ⟨p2, hp2⟩ : ∃ p, p = decide (0 ≤ f 11 ∧ f 11 ≤ 1199) := ⟨_, rfl⟩
  have c2 : ∀ W, Calls Tryz.prog 89 #[.int .i64 (f 11)] W fun e w' => e = .returned (.bool p2) ∧ W = w' := fun W => by rw [hp2]; exact rperiod_any (f 11) W
  obtain ⟨p3, hp3⟩ : ∃ p, p = decide (1 ≤ f 16 ∧ f 16 ≤ 2) := ⟨_, rfl⟩
  have c3 : ∀ W, Calls Tryz.prog 62 #[.int .i64 (f 16), .int .i64 1, .int .i64 2] W fun e w' => e = .returned (.bool p3) ∧ W = w' := fun W => by rw [hp3]; exact rwithin_any (f 16) 1 2 W
  rw [← hp1, ← hp2, ← hp3]
  obtain ⟨q2, hq2⟩ : ∃ q, q = (p1 && p2) := ⟨_, rfl⟩
  rw [← hq2]
  obtain ⟨q3, hq3⟩ : ∃ q, q = (q2 && p3) := ⟨_, rfl⟩
  rw [← hq3]
  have c1H := hide c1
  clear c1
  have hp1H := hide hp1
  clear hp1
  have c2H := hide c2
  clear c2
  have hp2H := hide hp2
  clear hp2
  have hq2H := hide hq2
  clear hq2
  have c3H := hide c3
  clear c3
  have hp3H := hide hp3
  clear hp3
  have hq3H := hide hq3
  clear hq3
  obtain ⟨cs, hcs⟩ : ∃ cs, cs = RW.fcells f s := ⟨_, rfl⟩
  obtain ⟨ds, hds⟩ : ∃ cs, cs = RW.fcells g u := ⟨_, rfl⟩
  rw [← hcs, ← hds]
  have hcsH := hide hcs; have hdsH := hide hds; have h0H := hide h0
  clear hcs hds h0
  go_enter Tryz.func90, Tryz.ntmps90
  go_upto_region 1 with fail
  rw [← fzero]
  obtain ⟨b1, hb1⟩ : ∃ b, b = w.heap.size := ⟨_, rfl⟩
  obtain ⟨b2, hb2⟩ : ∃ b, b = w.heap.size + 1 := ⟨_, rfl⟩
  obtain ⟨b3, hb3⟩ : ∃ b, b = w.heap.size + 1 + 1 := ⟨_, rfl⟩
  have hR := ((FRows.new (FRows.nil (Below.refl w.heap.size w)) f s).new g u).new RW.zeroF ⟨#[]⟩
  rw [show ((w.alloc (.cells (RW.fcells f s) 38)).alloc (.cells (RW.fcells g u) 38)).heap.size = b3 by rw [hb3]; simp, show (w.alloc (.cells (RW.fcells f s) 38)).heap.size = b2 by rw [hb2]; simp, ← hcsH.out, ← hdsH.out, ← hb1] at hR
  rw [← hb1] at ⊢
  rw [show b1 + 1 = b2 by omega]
  rw [show b2 + 1 = b3 by omega]
  have hle2 := hide (show w.heap.size ≤ b2 by omega)
  have hle3 := hide (show w.heap.size ≤ b3 by omega)
  have hbbH := hide (show b1 ≠ b2 ∧ b1 ≠ b3 ∧ b2 ≠ b3 by omega)
  have hne := hide (show ∀ x ∈ [(b1, f, s), (b3, RW.zeroF, (⟨#[]⟩ : ByteArray))], x.1 ≠ b2 by simp; omega)
  refine gen_world (FRows [(b2, g, u), (b1, f, s), (b3, RW.zeroF, ⟨#[]⟩)] w) (hR.sub (by simp)) ?_
  intro W hF
  clear hR hb1 hb2 hb3
  have c0 := hF.cell b1 f s (by simp) 0 (by decide)
  rw [h0H.out] at c0
  go_upto_region 15 with fail
  refine wp_region_staged (fun j => FRows ((b2, (match j with | 0 => RW.gst g [(8, f 8), (11, f 11), (16, f 16)] 0 | 1 => RW.gst g [(8, f 8), (11, f 11), (16, f 16)] 1 | 2 => RW.gst g [(8, f 8), (11, f 11), (16, f 16)] 2 | _ => RW.gst g [(8, f 8), (11, f 11), (16, f 16)] 3), (match j with | 0 => u | 1 => u | 2 => u | _ => u)) :: [(b1, f, s), (b3, RW.zeroF, ⟨#[]⟩)]) w) [7, 9, 11] (by kernel_rfl) (by kernel_rfl) (by rfl) hF.drew ?_
  clear hF
  refine st_val (.pointer (some ⟨b1, 8, none⟩)) (by rfl) (by rfl) (fun w => op_fa_8 rfl rfl) ?_
  simp only [Act.put, List.setIfInBounds_toArray, List.set_cons_zero, List.set_cons_succ]
  refine st_op (.int .i64 (f 8)) (by rfl) (by rfl) (fun j w _ hS => by rw [op_load_int rfl rfl (hS.cell b1 f s (by simp) 8 (by decide))]; exact ⟨rfl, hS⟩) ?_
  simp only [Act.put, List.setIfInBounds_toArray, List.set_cons_zero, List.set_cons_succ]
  refine st_val (.pointer (some ⟨b1, 11, none⟩)) (by rfl) (by rfl) (fun w => op_fa_11 rfl rfl) ?_
  simp only [Act.put, List.setIfInBounds_toArray, List.set_cons_zero, List.set_cons_succ]
  refine st_op (.int .i64 (f 11)) (by rfl) (by rfl) (fun j w _ hS => by rw [op_load_int rfl rfl (hS.cell b1 f s (by simp) 11 (by decide))]; exact ⟨rfl, hS⟩) ?_
  simp only [Act.put, List.setIfInBounds_toArray, List.set_cons_zero, List.set_cons_succ]
  refine st_val (.pointer (some ⟨b1, 16, none⟩)) (by rfl) (by rfl) (fun w => op_fa_16 rfl rfl) ?_
  simp only [Act.put, List.setIfInBounds_toArray, List.set_cons_zero, List.set_cons_succ]
  refine st_op (.int .i64 (f 16)) (by rfl) (by rfl) (fun j w _ hS => by rw [op_load_int rfl rfl (hS.cell b1 f s (by simp) 16 (by decide))]; exact ⟨rfl, hS⟩) ?_
  simp only [Act.put, List.setIfInBounds_toArray, List.set_cons_zero, List.set_cons_succ]
  refine st_val (.pointer (some ⟨b2, 8, none⟩)) (by rfl) (by rfl) (fun w => op_fa_8 rfl rfl) ?_
  simp only [Act.put, List.setIfInBounds_toArray, List.set_cons_zero, List.set_cons_succ]
  refine st_step 0 undef (by rfl) (by rfl) (by decide +kernel) (fun w hS => by rw [op_store_int rfl rfl rfl (hS.cell b2 (RW.gst g [(8, f 8), (11, f 11), (16, f 16)] 0) u (by simp) 8 (by decide)) (hS.unfrozen b2 (RW.gst g [(8, f 8), (11, f 11), (16, f 16)] 0) u (by simp) 8)]; exact ⟨rfl, hS.set hle2.out hne.out 8 (by decide) (f 8)⟩) ?_
  simp only [Act.put]
  refine st_val (.pointer (some ⟨b2, 11, none⟩)) (by rfl) (by rfl) (fun w => op_fa_11 rfl rfl) ?_
  simp only [Act.put, List.setIfInBounds_toArray, List.set_cons_zero, List.set_cons_succ]
  refine st_step 1 undef (by rfl) (by rfl) (by decide +kernel) (fun w hS => by rw [op_store_int rfl rfl rfl (hS.cell b2 (RW.gst g [(8, f 8), (11, f 11), (16, f 16)] 1) u (by simp) 11 (by decide)) (hS.unfrozen b2 (RW.gst g [(8, f 8), (11, f 11), (16, f 16)] 1) u (by simp) 11)]; exact ⟨rfl, hS.set hle2.out hne.out 11 (by decide) (f 11)⟩) ?_
  simp only [Act.put]
  refine st_val (.pointer (some ⟨b2, 16, none⟩)) (by rfl) (by rfl) (fun w => op_fa_16 rfl rfl) ?_
  simp only [Act.put, List.setIfInBounds_toArray, List.set_cons_zero, List.set_cons_succ]
  refine st_step 2 undef (by rfl) (by rfl) (by decide +kernel) (fun w hS => by rw [op_store_int rfl rfl rfl (hS.cell b2 (RW.gst g [(8, f 8), (11, f 11), (16, f 16)] 2) u (by simp) 16 (by decide)) (hS.unfrozen b2 (RW.gst g [(8, f 8), (11, f 11), (16, f 16)] 2) u (by simp) 16)]; exact ⟨rfl, hS.set hle2.out hne.out 16 (by decide) (f 16)⟩) ?_
  simp only [Act.put]
  refine st_nil ?_
  intro W1 hG1
  replace hG1 : FRows ((b2, RW.gst g [(8, f 8), (11, f 11), (16, f 16)] 3, u) :: [(b1, f, s), (b3, RW.zeroF, ⟨#[]⟩)]) w W1 := hG1
  go_upto_region 16 with fail
  refine wp_region_staged (fun j => FRows ((b3, (match j with | 0 => RW.zeroF | _ => RW.gst g [(8, f 8), (11, f 11), (16, f 16)] 3), (match j with | 0 => ⟨#[]⟩ | _ => u)) :: [(b2, RW.gst g [(8, f 8), (11, f 11), (16, f 16)] 3, u), (b1, f, s)]) w) [14] (by kernel_rfl) (by kernel_rfl) (by rfl) (hG1.sub (l' := (b3, RW.zeroF, ⟨#[]⟩) :: [(b2, RW.gst g [(8, f 8), (11, f 11), (16, f 16)] 3, u), (b1, f, s)]) (by simp)).drew ?_
  clear hG1
  have hn3 := hide (show ∀ x ∈ (b3, RW.gst g [(8, f 8), (11, f 11), (16, f 16)] 3, u) :: [(b2, RW.gst g [(8, f 8), (11, f 11), (16, f 16)] 3, u), (b1, f, s)], x = (b3, RW.gst g [(8, f 8), (11, f 11), (16, f 16)] 3, u) ∨ (x ∈ (b3, RW.zeroF, (⟨#[]⟩ : ByteArray)) :: [(b2, RW.gst g [(8, f 8), (11, f 11), (16, f 16)] 3, u), (b1, f, s)] ∧ x.1 ≠ b3) by have := hbbH.out; simp; omega)
  refine st_op (.agg (RW.fcells (RW.gst g [(8, f 8), (11, f 11), (16, f 16)] 3) u)) (by rfl) (by rfl) (fun j w _ hS => by rw [op_load_fact rfl rfl (hS.load b2 (RW.gst g [(8, f 8), (11, f 11), (16, f 16)] 3) u (by simp))]; exact ⟨rfl, hS⟩) ?_
  simp only [Act.put, List.setIfInBounds_toArray, List.set_cons_zero, List.set_cons_succ]
  refine st_op (.pointer (some ⟨b1, 8, none⟩)) (by rfl) (by rfl) (fun j w _ hS => by rw [op_fa_8 rfl rfl]; exact ⟨rfl, hS⟩) ?_
  simp only [Act.put, List.setIfInBounds_toArray, List.set_cons_zero, List.set_cons_succ]
  refine st_op (.int .i64 (f 8)) (by rfl) (by rfl) (fun j w _ hS => by rw [op_load_int rfl rfl (hS.cell b1 f s (by simp) 8 (by decide))]; exact ⟨rfl, hS⟩) ?_
  simp only [Act.put, List.setIfInBounds_toArray, List.set_cons_zero, List.set_cons_succ]
  refine st_op (.bool p1) (by rfl) (by rfl) (fun j w _ hS => by rw [op_call1 rfl rfl rfl cf_territory]; exact (c1H.out w).mono fun e w' h => by obtain ⟨rfl, rfl⟩ := h; exact ⟨rfl, hS⟩) ?_
  simp only [Act.put, List.setIfInBounds_toArray, List.set_cons_zero, List.set_cons_succ]
  refine st_val (.bool p1) (by rfl) (by rfl) (fun w => rfl) ?_
  simp only [Act.put, List.setIfInBounds_toArray, List.set_cons_zero, List.set_cons_succ]
  refine st_if p1 (.pointer (some ⟨b1, 11, none⟩)) (by cases p1 <;> rfl) (by rfl) (fun hq j w _ hS => by rw [op_fa_11 rfl rfl]; exact ⟨rfl, hS⟩) ?_
  simp only [Act.put, List.setIfInBounds_toArray, List.set_cons_zero, List.set_cons_succ]
  refine st_if p1 (.int .i64 (f 11)) (by cases p1 <;> rfl) (by rfl) (fun hq j w _ hS => by rw [op_load_int rfl (gd_pos hq) (hS.cell b1 f s (by simp) 11 (by decide))]; exact ⟨rfl, hS⟩) ?_
  simp only [Act.put, List.setIfInBounds_toArray, List.set_cons_zero, List.set_cons_succ]
  refine st_if p1 (.bool p2) (by cases p1 <;> rfl) (by rfl) (fun hq j w _ hS => by rw [op_call1 rfl rfl (gd_pos hq) cf_period]; exact (c2H.out w).mono fun e w' h => by obtain ⟨rfl, rfl⟩ := h; exact ⟨rfl, hS⟩) ?_
  simp only [Act.put, List.setIfInBounds_toArray, List.set_cons_zero, List.set_cons_succ]
  refine st_val (.bool q2) (by rfl) (by rfl) (fun w => op_pick rfl rfl rfl rfl (by rw [hq2H.out]; cases p1 <;> rfl)) ?_
  simp only [Act.put, List.setIfInBounds_toArray, List.set_cons_zero, List.set_cons_succ]
  refine st_val (.bool q2) (by rfl) (by rfl) (fun w => rfl) ?_
  simp only [Act.put, List.setIfInBounds_toArray, List.set_cons_zero, List.set_cons_succ]
  refine st_if q2 (.pointer (some ⟨b1, 16, none⟩)) (by cases q2 <;> rfl) (by rfl) (fun hq j w _ hS => by rw [op_fa_16 rfl rfl]; exact ⟨rfl, hS⟩) ?_
  simp only [Act.put, List.setIfInBounds_toArray, List.set_cons_zero, List.set_cons_succ]
  refine st_if q2 (.int .i64 (f 16)) (by cases q2 <;> rfl) (by rfl) (fun hq j w _ hS => by rw [op_load_int rfl (gd_pos hq) (hS.cell b1 f s (by simp) 16 (by decide))]; exact ⟨rfl, hS⟩) ?_
  simp only [Act.put, List.setIfInBounds_toArray, List.set_cons_zero, List.set_cons_succ]
  refine st_if q2 (.bool p3) (by cases q2 <;> rfl) (by rfl) (fun hq j w _ hS => by rw [op_call3 rfl rfl (gd_pos hq) rfl rfl cf_within]; exact (c3H.out w).mono fun e w' h => by obtain ⟨rfl, rfl⟩ := h; exact ⟨rfl, hS⟩) ?_
  simp only [Act.put, List.setIfInBounds_toArray, List.set_cons_zero, List.set_cons_succ]
  refine st_val (.bool q3) (by rfl) (by rfl) (fun w => op_pick rfl rfl rfl rfl (by rw [hq3H.out]; cases q2 <;> rfl)) ?_
  simp only [Act.put, List.setIfInBounds_toArray, List.set_cons_zero, List.set_cons_succ]
  refine st_step 0 undef (by rfl) (by rfl) (by decide +kernel) (fun w hS => by rw [op_store_fact rfl rfl rfl (hS.store b3 RW.zeroF (RW.gst g [(8, f 8), (11, f 11), (16, f 16)] 3) ⟨#[]⟩ u (by simp))]; exact ⟨rfl, hS.put b3 RW.zeroF (RW.gst g [(8, f 8), (11, f 11), (16, f 16)] 3) ⟨#[]⟩ u (by simp) hle3.out _ hn3.out⟩) ?_
  simp only [Act.put]
  refine st_val (.bool q3) (by rfl) (by rfl) (fun w => rfl) ?_
  simp only [Act.put, List.setIfInBounds_toArray, List.set_cons_zero, List.set_cons_succ]
  refine st_nil ?_
  intro W9 hG9
  replace hG9 : FRows ((b3, RW.gst g [(8, f 8), (11, f 11), (16, f 16)] 3, u) :: [(b2, RW.gst g [(8, f 8), (11, f 11), (16, f 16)] 3, u), (b1, f, s)]) w W9 := hG9
  go_wp2_with fail
  refine bodyPost_ret (rest_results _ _ b3 (RW.fcells (RW.gst g [(8, f 8), (11, f 11), (16, f 16)] 3) u) _ rfl rfl rfl (hG9.rows (b3, RW.gst g [(8, f 8), (11, f 11), (16, f 16)] 3, u) (by simp))) rfl ⟨rfl, hG9.below⟩
end Go.Proofs.YtnlphbfjeekooaaGreatDoor

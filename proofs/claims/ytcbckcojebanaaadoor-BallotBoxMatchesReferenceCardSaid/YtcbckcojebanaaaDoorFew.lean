/-
  Package royaltylaw25: few: what it returns; only new memory is written.
-/
import Derived.Test.YtcbckcojebanaaaDoorIds
import Derived.Test.YtcbckcojebanaaaDoorBr1
import Derived.Test.YtcbckcojebanaaaDoorBv
namespace Go.Proofs.YtcbckcojebanaaaDoor
open Go.RowKit RG
section
variable {ev : Operand → Value} {o : Oper} {x y z : Operand} {w : World}
theorem op_idx_st {b ao i n c : Nat} (ho : o.op = .indexAddr 22 x y) (hx : ev x = .slice (some ⟨b, ao, none⟩) n c) (hy : ev y = .int .i64 i) (hi : i < n) : (execOp ev o).run Tryd.prog w = .ok (.value (.pointer (some ⟨b, ao + i, none⟩))) w := by
  unfold execOp
  rw [ho]
  simp only [hx, hy]
  go_simp
theorem op_min_c {m n : Int} (ho : o.op = .call { callee := .builtin .min, args := #[x, y], argTypes := #[3, 3] }) (ht : o.type = 3) (hx : ev x = .int .i64 m) (hy : ev y = .int .i64 n) : (execOp ev o).run Tryd.prog w = .ok (.value (.int .i64 (min m n))) w := by
  unfold execOp
  rw [ho, ht]
  go_simp
theorem op_cut_str {s : ByteArray} {n : Nat} (ho : o.op = .slice 9 x none (some y) none) (hx : ev x = .string s) (hy : ev y = .int .i64 n) (hn : n ≤ s.size) : (execOp ev o).run Tryd.prog w = .ok (.value (.string (s.extract 0 n))) w := by
  unfold execOp
  rw [ho]
  go_simp
end
def FewAt (B : Nat) (w : World) (n : Nat → Int) (d : ByteArray) (v : Value) (W : World) : Prop :=
  W.heap[B]? = some (.cells (RW.mcells n d v) 24 (0, 0)) ∧ W.heap[B + 1]? = some (.cells RW.noM 24 (0, 0)) ∧ B + 2 ≤ W.heap.size ∧ Below B w W
theorem FewAt.next {B : Nat} {w W W' : World} {n : Nat → Int} {d : ByteArray} {v : Value} (h : FewAt B w n d v W) (hB : Below (B + 2) W W') : FewAt B w n d v W' :=
  ⟨(hB.block B (by omega)).trans h.1, (hB.block (B + 1) (by omega)).trans h.2.1, Nat.le_trans h.2.2.1 hB.size, h.2.2.2.trans (hB.mono (by omega))⟩
set_option maxRecDepth 100000 in
set_option maxHeartbeats 8000000 in
theorem few_any (n : Nat → Int) (d : ByteArray) (v : Value) (l : List ByteArray) (w : World) (hv : StrsV w v l) (hl : l.length ≤ 9223372036854775807) (hs : ∀ s ∈ l, s.size ≤ 9223372036854775807) :
    Calls Tryd.prog 11 #[.agg (RW.mcells n d v)] w fun e w' => (∃ u, e = .returned (.agg (RW.mcells n d u)) ∧ ∃ L, StrsV w' u L ∧ L.length ≤ 110 ∧ ∀ s ∈ L, s.size ≤ 4010) ∧ Below w.heap.size w w' := by
  obtain ⟨al, cl, rfl, _, hal⟩ := hv
  obtain ⟨nl, hnl⟩ : ∃ n, n = l.length := ⟨_, rfl⟩
  have hnlH := hide hnl
  rw [← hnl] at hl ⊢
  obtain ⟨B, hB⟩ : ∃ B, B = w.heap.size := ⟨_, rfl⟩
  have h0 : FewAt B w n d (.slice al nl cl) ((w.alloc (.cells (RW.mcells n d (.slice al nl cl)) 24)).alloc (.cells RW.noM 24)) :=
    ⟨(Below.heap_alloc _ _ _ (by simp; omega)).trans (heap_new_at hB), heap_new_at (by simp; omega), by simp; omega, ((Below.refl B w).alloc (by omega) _).alloc (by simp; omega) _⟩
  have hblk := hide (fun k (h : k < w.heap.size) => (show k < B by omega))
  have hsH := hide hs
  have halH := hide hal
  have h0H := hide h0
  rw [← hB]
  have hBH := hide hB
  clear hs hal h0 hnl hB
  go_enter Tryd.func11, Tryd.ntmps11
  go_upto_region 1 with fail
  rw [← hBH.out]
  refine gen_world (FewAt B w n d (.slice al nl cl)) h0H.out ?_
  clear h0H
  intro W0 h0
  have h0H := hide h0
  clear h0
  go_wp2
  go_loopw [3, 4] (fun u i wr => ∃ (j : Nat) (L : List ByteArray), i = .int .i64 j ∧ j ≤ 110 ∧ Hid (FewAt B w n d (.slice al nl cl) wr ∧ StO wr (B + 2) u L ∧ L.length ≤ j ∧ ∀ s ∈ L, s.size ≤ 4010)) (fun _ i _ => 110 - (intOf i).toNat)
  case atStart => exact ⟨0, [], rfl, Nat.zero_le _, h0H.out, StO.nil _ _, Nat.zero_le _, by simp⟩
  case round =>
    clear h0H
    obtain ⟨j, L, rfl, hj, hQ⟩ := hrel
    obtain ⟨wo, hwo⟩ : ∃ wo, wo = wr := ⟨_, rfl⟩
    subst hwo
    obtain ⟨hF0, hS0, hLj, hLs⟩ := hQ.out
    obtain ⟨au, cu, hu, _, _⟩ := hS0.row
    subst hu
    obtain ⟨nu, hnu⟩ : ∃ n, n = L.length := ⟨_, rfl⟩
    have hf7 : wo.frozen? ⟨B, 7, none⟩ = false := by simp [World.frozen?, hF0.1]
    have c7 : wo.cell? ⟨B, 7, none⟩ = some (.slice al nl cl) := (cell_at hF0.1 7).trans rfl
    rw [← hnu] at hS0 hLj ⊢
    have hS := hide hS0
    have hF := hide hF0
    have hnuH := hide hnu
    have hLsH := hide hLs
    have hf7H := hide hf7
    clear hQ hS0 hF0 hnu hLs hf7
    obtain ⟨c, hcc⟩ : ∃ c, c = decide (j < nl ∧ j < 110) := ⟨_, rfl⟩
    have hccH := hide hcc
    clear hcc
    go_upto_region 3 with fail
    go_cut [13] (fun s wx => s = .bool c ∧ wx = wo)
    case first =>
      by_cases h1 : j < nl
      · by_cases h2 : j < 110
        · have h2i : (j : Int) < 110 := by omega
          go_wp2
          all_goals go_meet
          all_goals exact ⟨by rw [hccH.out, decide_eq_true (show j < nl ∧ j < 110 by omega)] <;> rfl, rfl⟩
        · have h2i : ¬ (j : Int) < 110 := by omega
          go_wp2
          all_goals go_meet
          all_goals exact ⟨by rw [hccH.out, decide_eq_false (show ¬ (j < nl ∧ j < 110) by omega)] <;> rfl, rfl⟩
      · go_wp2
        all_goals go_meet
        all_goals exact ⟨by rw [hccH.out, decide_eq_false (show ¬ (j < nl ∧ j < 110) by omega)] <;> rfl, rfl⟩
    case rest =>
    obtain ⟨rfl, hwx⟩ := hcut
    have hwx' := hwx.symm
    subst hwx'
    cases c
    · have hf7 := hf7H.out
      clear hccH hf7H
      go_upto_region 7 with fail
      have hr3 : (wo.setCell ⟨B, 7, none⟩ (.slice au nu cu)).heap[B]? = some (.cells (RW.mcells n d (.slice au nu cu)) 24 (0, 0)) := by
        rw [← RW.mcells_lst n d (.slice al nl cl) (.slice au nu cu)]; exact heap_setCell_same _ _ _ _ _ _ hF.out.1
      have hr2 : (wo.setCell ⟨B, 7, none⟩ (.slice au nu cu)).heap[B + 1]? = some (.cells RW.noM 24 (0, 0)) := (Below.heap_setCell _ _ _ _ (by show B + 1 ≠ B; omega)).trans hF.out.2.1
      have hSB : StO ((wo.setCell ⟨B, 7, none⟩ (.slice au nu cu)).setRow (B + 1) (RW.mcells n d (.slice au nu cu))) (B + 2) (.slice au nu cu) L := own_keep hS.out (fun g hg => (setRow_other _ _ _ _ (by have := (own_block hS.out hg).1; omega)).trans (Below.heap_setCell _ _ _ _ (by have := (own_block hS.out hg).1; show g ≠ B; omega)))
      have hci := msg_info n d (.slice au nu cu)
      have hco := msg_one n d (.slice au nu cu) rfl
      have hend := hide (show (∃ u, Ending.returned (.agg (RW.mcells n d (.slice au nu cu))) = .returned (.agg (RW.mcells n d u)) ∧ ∃ L, StrsV ((wo.setCell ⟨B, 7, none⟩ (.slice au nu cu)).setRow (B + 1) (RW.mcells n d (.slice au nu cu))) u L ∧ L.length ≤ 110 ∧ ∀ s ∈ L, s.size ≤ 4010) ∧ Below B w ((wo.setCell ⟨B, 7, none⟩ (.slice au nu cu)).setRow (B + 1) (RW.mcells n d (.slice au nu cu))) from
        ⟨⟨_, rfl, L, strsV_row hSB.row, by rw [← hnuH.out]; omega, hLsH.out⟩, RW.below_setRow (hF.out.2.2.2.setCell (p := ⟨B, 7, none⟩) (by show B ≤ B; omega) _) (by omega) _⟩)
      have hr2H := hide (show ((wo.setCell ⟨B, 7, none⟩ (.slice au nu cu)).setRow (B + 1) (RW.mcells n d (.slice au nu cu))).heap[B + 1]? = some (.cells (RW.mcells n d (.slice au nu cu)) 24 (0, 0)) from setRow_heap _ _ _ _ _ _ hr2)
      clear hSB c7 hf7
      go_wp2_with (first
        | (refine wpList_load_row rfl 24 (.tmp 1) rfl B rfl 24 (RW.mcells n d (.slice au nu cu)) (0, 0) _ hr3 Tryd.underlying24 rfl hci ?_)
        | (refine wpList_store_row rfl 24 (.tmp 2) (.tmp 34) rfl (B + 1) (RW.mcells n d (.slice au nu cu)) rfl rfl 24 RW.noM hr2 hci rfl hco ?_))
      exact bodyPost_ret (results_cell_row rfl _ _ (B + 1) 24 (RW.mcells n d (.slice au nu cu)) (0, 0) _ rfl hr2H.out Tryd.underlying24 rfl hci) rfl hend.out
    · obtain ⟨hlt0, hj110⟩ : j < nl ∧ j < 110 := of_decide_eq_true hccH.out.symm
      obtain ⟨t, hx⟩ : ∃ x, l[j]? = some x := ⟨_, List.getElem?_eq_getElem (by rw [← hnlH.out]; exact hlt0)⟩
      have hts := hsH.out _ (List.mem_of_getElem? hx)
      obtain ⟨bq, oq, rfl, hbq, hcq⟩ := halH.out.resolve_left (by rintro rfl; simp at hx)
      have k1 : wo.cell? ⟨bq, oq + j, none⟩ = some (.string t) := by
        have h1 := hcq j (by rw [← hnlH.out]; exact hlt0)
        rw [List.getD, hx] at h1
        exact (World.cell?_of_block (a := ⟨bq, oq + j, none⟩) (hF.out.2.2.2.block _ (hblk.out _ hbq))).trans h1
      have k1d := hide (show wo.drew.cell? ⟨bq, oq + j, none⟩ = some (.string t) from k1)
      have c7d := hide (show wo.drew.cell? ⟨B, 7, none⟩ = some (.slice (some ⟨bq, oq, none⟩) nl cl) from c7)
      obtain ⟨m, hm⟩ : ∃ m, m = min t.size 4010 := ⟨_, rfl⟩
      have hmm := hide (show min (t.size : Int) 4010 = (m : Int) by rw [hm]; omega)
      have hmt := hide (show m ≤ t.size by omega)
      obtain ⟨T, hT0⟩ : ∃ T, T = t.extract 0 m := ⟨_, rfl⟩
      have hTs := hide (show T.size ≤ 4010 by rw [hT0, ByteArray.size_extract]; omega)
      have hT := hide hT0.symm
      have hlt := hide hlt0
      have hsz2 : B + 2 ≤ wo.drew.heap.size := hF.out.2.2.1
      have hD0 : Below wo.heap.size wo wo.drew := (Below.refl _ _).drew
      obtain ⟨v3, W3, r1', g1, g2⟩ := (hS.out.next hD0).app1 T (by rw [← hnuH.out]; omega) hsz2
      have r1 := hide r1'
      have hF3 := hide (hF.out.next ((hD0.mono hF.out.2.2.1).trans g2))
      have hO3 := hide g1
      have hln := hide (show (L ++ [T]).length ≤ j + 1 by rw [List.length_append, ← hnuH.out]; simp; omega)
      have hLs3 := hide (show ∀ s ∈ L ++ [T], s.size ≤ 4010 by
        intro s hs
        rcases List.mem_append.1 hs with h | h
        · exact hLsH.out s h
        · rw [List.mem_singleton] at h; rw [h]; exact hTs.out)
      clear hccH hx hbq hcq k1 c7 hm hT0 hlt0 hD0 g1 g2 r1' hsz2
      go_upto_region 5 with fail
      refine wp_region_staged (stw3 wo.drew (wo.drew.alloc (.cells #[.string T] 9)) W3) [14, 15] (by kernel_rfl) (by kernel_rfl) (by rfl) rfl ?_
      refine st_val (.slice au nu cu) (by rfl) (by rfl) (fun w => op_mv rfl rfl) ?_
      simp only [Act.put, List.setIfInBounds_toArray, List.set_cons_zero, List.set_cons_succ]
      refine st_val (.pointer (some ⟨B, 7, none⟩)) (by rfl) (by rfl) (fun w => op_fa_7 rfl rfl) ?_
      simp only [Act.put, List.setIfInBounds_toArray, List.set_cons_zero, List.set_cons_succ]
      refine st_op_in 0 0 (.slice (some ⟨bq, oq, none⟩) nl cl) (by rfl) (by rfl) (.inl rfl) (.inr (by decide +kernel)) (fun j w' _ hj hS => by obtain rfl := Nat.le_zero.1 hj; have hS : w' = _ := hS; subst hS; rw [op_load_sl rfl rfl c7d.out]; exact ⟨rfl, rfl⟩) ?_
      simp only [Act.put, List.setIfInBounds_toArray, List.set_cons_zero, List.set_cons_succ]
      refine st_val (.int .i64 j) (by rfl) (by rfl) (fun w => op_mv rfl rfl) ?_
      simp only [Act.put, List.setIfInBounds_toArray, List.set_cons_zero, List.set_cons_succ]
      refine st_val (.pointer (some ⟨bq, oq + j, none⟩)) (by rfl) (by rfl) (fun w => op_idx_st rfl rfl rfl hlt.out) ?_
      simp only [Act.put, List.setIfInBounds_toArray, List.set_cons_zero, List.set_cons_succ]
      refine st_op_in 0 0 (.string t) (by rfl) (by rfl) (.inl rfl) (.inr (by decide +kernel)) (fun j w' _ hj hS => by obtain rfl := Nat.le_zero.1 hj; have hS : w' = _ := hS; subst hS; rw [op_load_str rfl rfl k1d.out]; exact ⟨rfl, rfl⟩) ?_
      simp only [Act.put, List.setIfInBounds_toArray, List.set_cons_zero, List.set_cons_succ]
      refine st_val (.pointer (some ⟨B, 7, none⟩)) (by rfl) (by rfl) (fun w => op_fa_7 rfl rfl) ?_
      simp only [Act.put, List.setIfInBounds_toArray, List.set_cons_zero, List.set_cons_succ]
      refine st_op_in 0 0 (.slice (some ⟨bq, oq, none⟩) nl cl) (by rfl) (by rfl) (.inl rfl) (.inr (by decide +kernel)) (fun j w' _ hj hS => by obtain rfl := Nat.le_zero.1 hj; have hS : w' = _ := hS; subst hS; rw [op_load_sl rfl rfl c7d.out]; exact ⟨rfl, rfl⟩) ?_
      simp only [Act.put, List.setIfInBounds_toArray, List.set_cons_zero, List.set_cons_succ]
      refine st_val (.int .i64 j) (by rfl) (by rfl) (fun w => op_mv rfl rfl) ?_
      simp only [Act.put, List.setIfInBounds_toArray, List.set_cons_zero, List.set_cons_succ]
      refine st_val (.pointer (some ⟨bq, oq + j, none⟩)) (by rfl) (by rfl) (fun w => op_idx_st rfl rfl rfl hlt.out) ?_
      simp only [Act.put, List.setIfInBounds_toArray, List.set_cons_zero, List.set_cons_succ]
      refine st_op_in 0 0 (.string t) (by rfl) (by rfl) (.inl rfl) (.inr (by decide +kernel)) (fun j w' _ hj hS => by obtain rfl := Nat.le_zero.1 hj; have hS : w' = _ := hS; subst hS; rw [op_load_str rfl rfl k1d.out]; exact ⟨rfl, rfl⟩) ?_
      simp only [Act.put, List.setIfInBounds_toArray, List.set_cons_zero, List.set_cons_succ]
      refine st_val (.int .i64 t.size) (by rfl) (by rfl) (fun w => op_len_str rfl rfl) ?_
      simp only [Act.put, List.setIfInBounds_toArray, List.set_cons_zero, List.set_cons_succ]
      refine st_val (.int .i64 (m : Nat)) (by rfl) (by rfl) (fun w => (op_min_c rfl rfl rfl rfl).trans (by rw [hmm.out])) ?_
      simp only [Act.put, List.setIfInBounds_toArray, List.set_cons_zero, List.set_cons_succ]
      refine st_val (.string T) (by rfl) (by rfl) (fun w => (op_cut_str (n := m) rfl rfl rfl hmt.out).trans (by rw [hT.out])) ?_
      simp only [Act.put, List.setIfInBounds_toArray, List.set_cons_zero, List.set_cons_succ]
      refine st_step 0 (.slice (some ⟨wo.drew.heap.size, 0, none⟩) 1 1) (by rfl) (by rfl) (by decide +kernel) (fun w' hS => by have hS : w' = _ := hS; subst hS; rw [op_build_s rfl rfl]; exact ⟨rfl, rfl⟩) ?_
      simp only [Act.put, List.setIfInBounds_toArray, List.set_cons_zero, List.set_cons_succ]
      refine st_step 1 (v3) (by rfl) (by rfl) (by decide +kernel) (fun w' hS => by have hS : w' = _ := hS; subst hS; rw [op_app rfl rfl rfl r1.out]; exact ⟨rfl, rfl⟩) ?_
      simp only [Act.put, List.setIfInBounds_toArray, List.set_cons_zero, List.set_cons_succ]
      refine st_val (v3) (by rfl) (by rfl) (fun w => op_asg rfl rfl) ?_
      simp only [Act.put, List.setIfInBounds_toArray, List.set_cons_zero, List.set_cons_succ]
      refine st_nil ?_
      intro W4 hW4
      have hW4 : W4 = W3 := hW4
      subst hW4
      clear r1 k1d c7d hmm hmt hT hlt
      go_wp2
      go_roundw
      case rel => exact ⟨j + 1, L ++ [T], by go_num, by omega, hF3.out, hO3.out, hln.out, hLs3.out⟩
      case measure => simp [intOf]; omega
end Go.Proofs.YtcbckcojebanaaaDoor

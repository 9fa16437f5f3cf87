/-
  Package royaltyref25: Decode: what it returns; only new memory is written.
-/
import Derived.Test.YtcbckcojebanaaaDoorBrdP
import Derived.Test.YtcbckcojebanaaaDoorFew
import Derived.Test.YtcbckcojebanaaaDoorBr5
namespace Go.Proofs.YtcbckcojebanaaaDoor
open Go.RowKit RG
theorem NumO.cell {W : World} {B : Nat} {a : Option Addr} {n c i : Nat} {L : List Int} {x : Int} (h : NumO W B (.slice a n c) L) (hx : L[i]? = some x) : ∃ g, a = some ⟨g, 0, none⟩ ∧ W.cell? ⟨g, i, none⟩ = some (.int .i64 x) ∧ g < W.heap.size := by
  have h0 := h
  rcases h.2 with ⟨e, h1⟩ | ⟨g, cap, cur, e, _, hg, _⟩
  · rw [List.length_eq_zero_iff.1 h1] at hx; simp at hx
  · injection e with e1 e2 e3
    subst e1
    refine ⟨g, rfl, ?_, (Array.getElem?_eq_some_iff.1 hg).1⟩
    obtain ⟨a', c2, e', _, ha⟩ := h0.row
    injection e' with e1
    subst e1
    obtain ⟨b, o, hb, _, hr⟩ := ha.resolve_left (by rintro rfl; simp at hx)
    injection hb with hb
    injection hb with p1 p2
    subst p1 p2
    have := hr i x hx 0 _ rfl
    rwa [Nat.mul_one, Nat.zero_add, Nat.add_zero] at this
section
variable {ev : Operand → Value} {o : Oper} {x y x0 x1 x2 x3 x4 x5 x6 : Operand} {w : World}
theorem op_idx_num {b i n c : Nat} (ho : o.op = .indexAddr 35 x y) (hx : ev x = .slice (some ⟨b, 0, none⟩) n c) (hy : ev y = .int .i64 i) (hi : i < n) : (execOp ev o).run Tryd.prog w = .ok (.value (.pointer (some ⟨b, i, none⟩))) w := by
  unfold execOp
  rw [ho]
  simp only [hx, hy]
  go_simp
theorem op_build_m7 {f : Nat → Int} {d : ByteArray} (ho : o.op = .build 24 #[(0, x0), (1, x1), (2, x2), (3, x3), (4, x4), (5, x5), (6, x6)]) (h0 : ev x0 = .int .i64 (f 0)) (h1 : ev x1 = .int .i64 (f 1)) (h2 : ev x2 = .int .i64 (f 2)) (h3 : ev x3 = .int .i64 (f 3)) (h4 : ev x4 = .int .i64 (f 4)) (h5 : ev x5 = .int .i64 (f 5)) (h6 : ev x6 = .string d) :
    (execOp ev o).run Tryd.prog w = .ok (.value (.agg (RW.mcells f d (.slice none 0 0)))) w := by
  unfold RW.mcells
  unfold execOp
  rw [ho]
  go_simp
end
/-- a slice's length -/
def lenS : Value → Nat | .slice _ n _ => n | _ => 0
set_option maxRecDepth 100000 in
set_option maxHeartbeats 20000000 in
theorem rdecode_any (s : ByteArray) (hs : s.size ≤ 9223372036854775807) (w : World) : Calls Tryd.prog 24 #[.string s] w fun e w' => DecOut RW.k0F s.data.toList e w' ∧ Below w.heap.size w w' := by
  obtain ⟨B, hB⟩ : ∃ B, B = w.heap.size := ⟨_, rfl⟩
  have hsl : s.data.toList.length = s.size := by rw [Array.length_toList]; rfl
  obtain ⟨l, hl⟩ : ∃ l, l = s.data.toList := ⟨_, rfl⟩
  have hI := hide (fun (a : Nat) (ha : a ≤ s.size) (W : World) => rint_walk s a W hs ha)
  have hS := hide (fun (a : Nat) (ha : a ≤ s.size) (W : World) => rstr_walk s a W hs ha)
  rw [← hl] at hI hS hsl ⊢
  have hslH := hide hsl
  have hBH := hide hB
  have h0 : DR B w (.slice none 0 0) [] (w.alloc (.cells RW.noM 24)) := by
    rw [hB]
    exact ⟨(Below.refl _ _).alloc (Nat.le_refl _) _, by simp, heap_alloc_new _ _, NumO.nil _ _⟩
  have h0H := hide h0
  have hno := hide (msg_info (fun _ => 0) ⟨#[]⟩ (.slice none 0 0))
  have hnoo := hide (msg_one (fun _ => 0) ⟨#[]⟩ (.slice none 0 0) rfl)
  have hwire := hide (show ∀ W : World, Below B w W → RW.decM RW.k0F l = .wire → DecOut RW.k0F l (.returned (.tuple #[.agg RW.noM, .int .i64 10])) (W.setRow B RW.noM) ∧ Below w.heap.size w (W.setRow B RW.noM) from fun W h hd => ⟨by unfold DecOut; rw [hd], by rw [← hB]; exact RW.below_setRow h (Nat.le_refl _) _⟩)
  clear hl hsl h0 hB
  go_enter Tryd.func24, Tryd.ntmps24
  go_upto_region 1 with fail
  rw [← hBH.out]
  refine gen_world (DR B w (.slice none 0 0) []) h0H.out ?_
  clear h0H
  intro w0 h0
  have h0H := hide h0
  clear h0
  go_wp2
  go_loopw [4, 5] (fun u i wr => ∃ j a : Nat, i = .int .i64 a ∧ j ≤ 6 ∧ Hid (a ≤ s.size ∧ (RW.rdN l j).2 = (a, false) ∧ DR B w u (RW.numsL l j) wr)) (fun u _ _ => 6 - lenS u)
  case atStart => exact ⟨0, 0, rfl, Nat.zero_le _, Nat.zero_le _, rfl, h0H.out⟩
  case round =>
    clear h0H
    obtain ⟨j, a, rfl, hj6, hQ⟩ := hrel
    obtain ⟨au, cu, hu⟩ := own_fm hQ.out.2.2.own
    rw [RW.numsL_len] at hu
    subst hu
    by_cases hj : j < 6
    · have hji : (j : Int) < 6 := by omega
      have hIa := hide (hI.out a hQ.out.1 wr)
      rcases hD : RW.decI (l.drop a) with _ | ⟨n, k⟩
      · have hdec := hide (RW.decM_w1 (K := RW.k0F) (RW.rdN_fail hj hQ.out.2.1 hD))
        rw [hD] at hIa
        have hQd := hide hQ.out.2.2
        clear hD hQ
        go_upto_region 6 with (go_at_call 57; refine hIa.out.mono ?_; rintro e w1 ⟨rfl, hB1⟩; unfold intRes; have hQ1 := hide (hQd.out.next hB1); clear hB1)
        clear hIa hQd
        have hres := hQ1.out.res
        have hno' := hno.out
        have hnoo' := hnoo.out
        have hfin := hide (hwire.out _ hQ1.out.below hdec.out)
        go_wp2_with (refine wpList_store_row rfl 24 (.tmp 2) (.tmp 32) rfl B RW.noM rfl rfl 24 RW.noM hres hno' rfl hnoo' ?_)
        exact bodyPost_ret (rdec_results _ _ B RW.noM 10 rfl rfl rfl (setRow_heap _ _ _ _ _ _ hres)) rfl hfin.out
      · have hnx := hide (RW.rdN_next hQ.out.2.1 hD)
        have hnm := hide (RW.numsL_next hQ.out.2.1 hD)
        have hk := RW.decI_le _ _ _ hD
        rw [List.length_drop, hslH.out] at hk
        have hak := hide (show a + k ≤ s.size by have := hQ.out.1; omega)
        rw [hD] at hIa
        have hQd := hide hQ.out.2.2
        clear hD hQ hk
        go_upto_region 7 with (go_at_call 57; refine hIa.out.mono ?_; rintro e w1 ⟨rfl, hB1⟩; unfold intRes; have hQ1 := hide (hQd.out.next hB1); clear hB1)
        clear hIa hQd
        obtain ⟨v3, W3, hrun, ho3, hb3⟩ := hQ1.out.own.app1 n (by rw [RW.numsL_len]; omega) hQ1.out.size
        have ho3H := hide ho3
        have hb3H := hide hb3
        clear ho3 hb3
        have hru : (Builtin.append_ #[35, 35] 35 #[.slice au j cu, .slice (some ⟨w1.heap.size, 0, none⟩) 1 1]).run Tryd.prog (w1.alloc (.cells #[.int .i64 n] 3)) = .ok v3 W3 := hrun
        clear hrun
        go_wp2_with (at_builtin; refine wpList_app_run rfl (.tmp 33) (.tmp 35) rfl rfl rfl hru ?_)
        go_roundw
        case rel =>
          refine ⟨j + 1, a + k, by go_num, by omega, hak.out, hnx.out.1, hQ1.out.below.trans (hb3H.out.mono (Nat.le_succ B)), Nat.le_trans hQ1.out.size hb3H.out.size, (hb3H.out.block B (Nat.lt_succ_self B)).trans hQ1.out.res, ?_⟩
          rw [hnm.out]
          exact ho3H.out
        case measure =>
          obtain ⟨a4, c4, h4⟩ := own_fm ho3H.out
          rw [h4]
          simp [lenS, RW.numsL_len]
          omega
    · obtain rfl : j = 6 := by omega
      have hsix := hide (RW.rdN_six hQ.out.2.1)
      have hSa := hide (hS.out a hQ.out.1 wr)
      have hQd := hide hQ.out.2.2
      have haH := hide hQ.out.1
      clear hQ hj
      obtain ⟨f, hf⟩ : ∃ f, f = (RW.rdN l 6).1 := ⟨_, rfl⟩
      rw [← hf] at hsix
      have hfH := hide hf
      clear hf
      rcases hD : RW.decS (l.drop a) with _ | ⟨d, k⟩
      · have hdec := hide (RW.decM_w2 (K := RW.k0F) hsix.out hD)
        rw [hD] at hSa
        clear hD
        go_upto_region 11 with (go_at_call 58; refine hSa.out.mono ?_; rintro e w1 ⟨rfl, hB1⟩; unfold strRes; have hQ1 := hide (hQd.out.next hB1); clear hB1)
        clear hSa hQd
        have hres := hQ1.out.res
        have hno' := hno.out
        have hnoo' := hnoo.out
        have hfin := hide (hwire.out _ hQ1.out.below hdec.out)
        go_wp2_with (refine wpList_store_row rfl 24 (.tmp 2) (.tmp 47) rfl B RW.noM rfl rfl 24 RW.noM hres hno' rfl hnoo' ?_)
        exact bodyPost_ret (rdec_results _ _ B RW.noM 10 rfl rfl rfl (setRow_heap _ _ _ _ _ _ hres)) rfl hfin.out
      · have hD1 := hide hD
        have hk := RW.decS_len _ _ _ hD
        rw [List.length_drop, hslH.out] at hk
        have hak := hide (show a + k ≤ s.size by have := haH.out; omega)
        rw [hD] at hSa
        clear hD hk
        go_upto_region 12 with (go_at_call 58; refine hSa.out.mono ?_; rintro e w1 ⟨rfl, hB1⟩; unfold strRes; have hQ1 := hide (hQd.out.next hB1); clear hB1)
        clear hSa hQd
        have hIa := hide (hI.out (a + k) hak.out w1)
        rcases hD2 : RW.decI (l.drop (a + k)) with _ | ⟨m, k2⟩
        · have hdec := hide (RW.decM_w3 (K := RW.k0F) hsix.out hD1.out (by rw [List.drop_drop]; exact hD2))
          rw [hD2] at hIa
          clear hD2
          go_upto_region 14 with (go_at_call 57; refine hIa.out.mono ?_; rintro e w2 ⟨rfl, hB2⟩; unfold intRes; have hQ2 := hide (hQ1.out.next hB2); clear hB2)
          clear hIa hQ1
          have hres := hQ2.out.res
          have hno' := hno.out
          have hnoo' := hnoo.out
          have hfin := hide (hwire.out _ hQ2.out.below hdec.out)
          go_wp2_with (refine wpList_store_row rfl 24 (.tmp 2) (.tmp 57) rfl B RW.noM rfl rfl 24 RW.noM hres hno' rfl hnoo' ?_)
          exact bodyPost_ret (rdec_results _ _ B RW.noM 10 rfl rfl rfl (setRow_heap _ _ _ _ _ _ hres)) rfl hfin.out
        · have hD2H := hide (show RW.decI ((l.drop a).drop k) = some (m, k2) by rw [List.drop_drop]; exact hD2)
          have hk := RW.decI_le _ _ _ hD2
          rw [List.length_drop, hslH.out] at hk
          have ha0 := hide (show a + k + k2 ≤ s.size by have := hak.out; omega)
          rw [hD2] at hIa
          clear hD2 hk
          go_upto_region 15 with (go_at_call 57; refine hIa.out.mono ?_; rintro e w2 ⟨rfl, hB2⟩; unfold intRes; have hQ2 := hide (hQ1.out.next hB2); clear hB2)
          clear hIa hQ1
          obtain ⟨a0, ha0e⟩ : ∃ x, x = a + k + k2 := ⟨_, rfl⟩
          rw [← ha0e] at ha0
          have ha0i : (a : Int) + k + k2 = (a0 : Int) := by omega
          rw [ha0i]
          clear ha0i
          obtain ⟨c, hcc⟩ : ∃ c, c = decide (m < 0 ∨ 4000 < m) := ⟨_, rfl⟩
          have hccH := hide hcc
          clear hcc
          have hdrop := hide (show ((l.drop a).drop k).drop k2 = l.drop a0 by rw [List.drop_drop, List.drop_drop, ha0e, Nat.add_assoc])
          clear ha0e
          go_cut [63] (fun s wx => s = .bool c ∧ wx = w2)
          case first =>
            by_cases h1 : m < 0
            · go_wp2
              all_goals go_meet
              all_goals exact ⟨by rw [hccH.out, decide_eq_true (.inl h1)] <;> rfl, rfl⟩
            · by_cases h2 : 4000 < m
              · go_wp2
                all_goals go_meet
                all_goals exact ⟨by rw [hccH.out, decide_eq_true (.inr h2)] <;> rfl, rfl⟩
              · go_wp2
                all_goals go_meet
                all_goals exact ⟨by rw [hccH.out, decide_eq_false (by omega)] <;> rfl, rfl⟩
          case rest =>
          obtain ⟨rfl, hwx⟩ := hcut
          have hwx' := hwx.symm
          subst hwx'
          cases c
          · have hm : ¬ (m < 0 ∨ 4000 < m) := of_decide_eq_false hccH.out.symm
            have hmH := hide hm
            clear hccH
            obtain ⟨mn, rfl⟩ := Int.eq_ofNat_of_zero_le (show 0 ≤ m by omega)
            have hmn : mn ≤ 4000 := by omega
            have hmt : ((mn : Nat) : Int).toNat = mn := by simp
            clear hm
            obtain ⟨g, hg⟩ : ∃ g, au = some ⟨g, 0, none⟩ := by
              obtain ⟨g, h1, _⟩ := NumO.cell hQ2.out.own (RW.numsL_get l 0 (by decide))
              exact ⟨g, h1⟩
            subst hg
            have hcell := hide (fun i (hi : i < 6) W (hB : Below w2.heap.size w2 W) => (show W.cell? ⟨g, i, none⟩ = some (.int .i64 (f i)) from by
              obtain ⟨g', h1, h2, h3⟩ := NumO.cell hQ2.out.own (RW.numsL_get l i hi)
              injection h1 with h1
              injection h1 with h1
              subst h1
              rw [hfH.out]
              exact (World.cell?_of_block (a := ⟨g, i, none⟩) (hB.block _ h3)).trans h2))
            go_upto_region 17 with fail
            refine wp_region_k (fun _ W => Below w2.heap.size w2 W) (fun _ => True) [20, 21] (.op 0 (.op 1 (.op 2 (.op 3 (.op 4 (.op 5 (.op 6 (.op 7 (.op 8 (.op 9 (.op 10 (.op 11 (.op 12 (.op 13 (.op 14 (.op 15 (.op 16 (.op 17 (.op 18 (.op 19 (.op 20 (.op 21 .nil)))))))))))))))))))))) (by kernel_rfl) (by kernel_rfl) (by rfl) (by kernel_rfl) (Below.refl _ _).drew trivial ?_
            refine k_val (.slice (some ⟨g, 0, none⟩) 6 cu) (by apply opN; repeat' (first | apply OpAt.z | apply OpAt.s)) (by rfl) (by rfl) (fun _ W hS => op_mv rfl rfl) ?_
            simp only [Act.put, List.setIfInBounds_toArray, List.set_cons_zero, List.set_cons_succ]
            refine k_val (.pointer (some ⟨g, 0, none⟩)) (by apply opN; repeat' (first | apply OpAt.z | apply OpAt.s)) (by rfl) (by rfl) (fun _ W hS => op_idx_num (i := 0) rfl rfl rfl (by decide)) ?_
            simp only [Act.put, List.setIfInBounds_toArray, List.set_cons_zero, List.set_cons_succ]
            refine k_val (.int .i64 (f 0)) (by apply opN; repeat' (first | apply OpAt.z | apply OpAt.s)) (by rfl) (by rfl) (fun _ W hS => op_load_int rfl rfl (hcell.out 0 (by decide) W hS)) ?_
            simp only [Act.put, List.setIfInBounds_toArray, List.set_cons_zero, List.set_cons_succ]
            refine k_val (.slice (some ⟨g, 0, none⟩) 6 cu) (by apply opN; repeat' (first | apply OpAt.z | apply OpAt.s)) (by rfl) (by rfl) (fun _ W hS => op_mv rfl rfl) ?_
            simp only [Act.put, List.setIfInBounds_toArray, List.set_cons_zero, List.set_cons_succ]
            refine k_val (.pointer (some ⟨g, 1, none⟩)) (by apply opN; repeat' (first | apply OpAt.z | apply OpAt.s)) (by rfl) (by rfl) (fun _ W hS => op_idx_num (i := 1) rfl rfl rfl (by decide)) ?_
            simp only [Act.put, List.setIfInBounds_toArray, List.set_cons_zero, List.set_cons_succ]
            refine k_val (.int .i64 (f 1)) (by apply opN; repeat' (first | apply OpAt.z | apply OpAt.s)) (by rfl) (by rfl) (fun _ W hS => op_load_int rfl rfl (hcell.out 1 (by decide) W hS)) ?_
            simp only [Act.put, List.setIfInBounds_toArray, List.set_cons_zero, List.set_cons_succ]
            refine k_val (.slice (some ⟨g, 0, none⟩) 6 cu) (by apply opN; repeat' (first | apply OpAt.z | apply OpAt.s)) (by rfl) (by rfl) (fun _ W hS => op_mv rfl rfl) ?_
            simp only [Act.put, List.setIfInBounds_toArray, List.set_cons_zero, List.set_cons_succ]
            refine k_val (.pointer (some ⟨g, 2, none⟩)) (by apply opN; repeat' (first | apply OpAt.z | apply OpAt.s)) (by rfl) (by rfl) (fun _ W hS => op_idx_num (i := 2) rfl rfl rfl (by decide)) ?_
            simp only [Act.put, List.setIfInBounds_toArray, List.set_cons_zero, List.set_cons_succ]
            refine k_val (.int .i64 (f 2)) (by apply opN; repeat' (first | apply OpAt.z | apply OpAt.s)) (by rfl) (by rfl) (fun _ W hS => op_load_int rfl rfl (hcell.out 2 (by decide) W hS)) ?_
            simp only [Act.put, List.setIfInBounds_toArray, List.set_cons_zero, List.set_cons_succ]
            refine k_val (.slice (some ⟨g, 0, none⟩) 6 cu) (by apply opN; repeat' (first | apply OpAt.z | apply OpAt.s)) (by rfl) (by rfl) (fun _ W hS => op_mv rfl rfl) ?_
            simp only [Act.put, List.setIfInBounds_toArray, List.set_cons_zero, List.set_cons_succ]
            refine k_val (.pointer (some ⟨g, 3, none⟩)) (by apply opN; repeat' (first | apply OpAt.z | apply OpAt.s)) (by rfl) (by rfl) (fun _ W hS => op_idx_num (i := 3) rfl rfl rfl (by decide)) ?_
            simp only [Act.put, List.setIfInBounds_toArray, List.set_cons_zero, List.set_cons_succ]
            refine k_val (.int .i64 (f 3)) (by apply opN; repeat' (first | apply OpAt.z | apply OpAt.s)) (by rfl) (by rfl) (fun _ W hS => op_load_int rfl rfl (hcell.out 3 (by decide) W hS)) ?_
            simp only [Act.put, List.setIfInBounds_toArray, List.set_cons_zero, List.set_cons_succ]
            refine k_val (.slice (some ⟨g, 0, none⟩) 6 cu) (by apply opN; repeat' (first | apply OpAt.z | apply OpAt.s)) (by rfl) (by rfl) (fun _ W hS => op_mv rfl rfl) ?_
            simp only [Act.put, List.setIfInBounds_toArray, List.set_cons_zero, List.set_cons_succ]
            refine k_val (.pointer (some ⟨g, 4, none⟩)) (by apply opN; repeat' (first | apply OpAt.z | apply OpAt.s)) (by rfl) (by rfl) (fun _ W hS => op_idx_num (i := 4) rfl rfl rfl (by decide)) ?_
            simp only [Act.put, List.setIfInBounds_toArray, List.set_cons_zero, List.set_cons_succ]
            refine k_val (.int .i64 (f 4)) (by apply opN; repeat' (first | apply OpAt.z | apply OpAt.s)) (by rfl) (by rfl) (fun _ W hS => op_load_int rfl rfl (hcell.out 4 (by decide) W hS)) ?_
            simp only [Act.put, List.setIfInBounds_toArray, List.set_cons_zero, List.set_cons_succ]
            refine k_val (.slice (some ⟨g, 0, none⟩) 6 cu) (by apply opN; repeat' (first | apply OpAt.z | apply OpAt.s)) (by rfl) (by rfl) (fun _ W hS => op_mv rfl rfl) ?_
            simp only [Act.put, List.setIfInBounds_toArray, List.set_cons_zero, List.set_cons_succ]
            refine k_val (.pointer (some ⟨g, 5, none⟩)) (by apply opN; repeat' (first | apply OpAt.z | apply OpAt.s)) (by rfl) (by rfl) (fun _ W hS => op_idx_num (i := 5) rfl rfl rfl (by decide)) ?_
            simp only [Act.put, List.setIfInBounds_toArray, List.set_cons_zero, List.set_cons_succ]
            refine k_val (.int .i64 (f 5)) (by apply opN; repeat' (first | apply OpAt.z | apply OpAt.s)) (by rfl) (by rfl) (fun _ W hS => op_load_int rfl rfl (hcell.out 5 (by decide) W hS)) ?_
            simp only [Act.put, List.setIfInBounds_toArray, List.set_cons_zero, List.set_cons_succ]
            refine k_val (.string ⟨d.toArray⟩) (by apply opN; repeat' (first | apply OpAt.z | apply OpAt.s)) (by rfl) (by rfl) (fun _ W hS => op_mv rfl rfl) ?_
            simp only [Act.put, List.setIfInBounds_toArray, List.set_cons_zero, List.set_cons_succ]
            refine k_val (.agg (RW.mcells f ⟨d.toArray⟩ (.slice none 0 0))) (by apply opN; repeat' (first | apply OpAt.z | apply OpAt.s)) (by rfl) (by rfl) (fun _ W hS => op_build_m7 rfl rfl rfl rfl rfl rfl rfl rfl) ?_
            simp only [Act.put, List.setIfInBounds_toArray, List.set_cons_zero, List.set_cons_succ]
            refine k_step (fun K' u => ∃ b, u = .pointer (some ⟨b, 0, none⟩) ∧ w2.heap.size ≤ b ∧ K' = fun W => W.heap[b]? = some (.cells RW.noM 24 (0, 0))) (by apply opN; repeat' (first | apply OpAt.z | apply OpAt.s)) (by rfl) (by rfl) (by rfl) (fun W hC hK => ?_) ?_
            · exact xup_val (op_alloc rfl) ⟨hC.alloc hC.size _, _, heap_alloc_new _ _, W.heap.size, rfl, hC.size, rfl⟩
            rintro K' u ⟨b, rfl, hb, rfl⟩
            simp only [Act.put, List.setIfInBounds_toArray, List.set_cons_zero, List.set_cons_succ]
            refine k_step (fun K' u => K' = fun W => W.heap[b]? = some (.cells (RW.mcells f ⟨d.toArray⟩ (.slice none 0 0)) 24 (0, 0))) (by apply opN; repeat' (first | apply OpAt.z | apply OpAt.s)) (by rfl) (by rfl) (by rfl) (fun W hC hK => ?_) ?_
            · exact xup_skip (op_store_agg rfl rfl rfl (msg_st hK rfl)) ⟨belowSetRow hC hb _, _, setRow_heap _ _ _ _ _ _ hK, rfl⟩
            rintro _ _ rfl
            simp only [Act.put]
            refine k_nil ?_
            intro w5 hC hK
            have hM5 : DMs B w b f ⟨d.toArray⟩ (.slice none 0 0) [] w5 := ⟨hQ2.out.below.trans (hC.mono (by have := hQ2.out.size; omega)), by have := hQ2.out.size; omega, (Array.getElem?_eq_some_iff.1 hK).1, (hC.block _ (by have := hQ2.out.size; omega)).trans hQ2.out.res, hK, StO.nil _ _⟩
            have hM5H := hide hM5
            clear hM5 hC hK hcell hb hQ2 hfH
            go_wp2
            go_loopw [5, 15] (fun p i wr => ∃ (k a : Nat) (v : Value), i = .int .i64 k ∧ p = .int .i64 a ∧ k ≤ 4000 ∧ Hid (a ≤ s.size ∧ k ≤ mn ∧ (∀ j, j ≤ k → (RW.rdL l (a0, false) j).2.2 = false) ∧ (RW.rdL l (a0, false) k).2 = (a, false) ∧ DMs B w b f ⟨d.toArray⟩ v ((RW.rdL l (a0, false) k).1.map (fun x => (⟨x.toArray⟩ : ByteArray))) wr)) (fun _ i _ => 4000 - (intOf i).toNat)
            case atStart => exact ⟨0, a0, _, rfl, rfl, Nat.zero_le _, ha0.out, Nat.zero_le _, fun j hj => by obtain rfl := Nat.le_zero.1 hj; rfl, rfl, hM5H.out⟩
            case round =>
              clear hM5H
              obtain ⟨k4, a4, v, rfl, rfl, hk4, hP⟩ := hrel
              obtain ⟨av, cv, hv⟩ := own_fm hP.out.2.2.2.2.own
              rw [List.length_map, RW.rdL_len] at hv
              subst hv
              by_cases hlt : k4 < mn
              · have hSa := hide (hS.out a4 hP.out.1 wr)
                rcases hD : RW.decS (l.drop a4) with _ | ⟨t, c⟩
                · have hdec := hide (RW.decM_w4 (K := RW.k0F) hsix.out hD1.out hD2H.out hmH.out (by rw [hdrop.out, hmt]; exact RW.rdL_fail hlt hP.out.2.2.1 hP.out.2.2.2.1 hD))
                  rw [hD] at hSa
                  have hPd := hide hP.out.2.2.2.2
                  clear hD hP
                  go_upto_region 23 with (go_at_call 58; refine hSa.out.mono ?_; rintro e w6 ⟨rfl, hB6⟩; unfold strRes; have hP1 := hide (hPd.out.next hB6); clear hB6)
                  clear hSa hPd
                  have hres := hP1.out.res
                  have hno' := hno.out
                  have hnoo' := hnoo.out
                  have hfin := hide (hwire.out _ hP1.out.below hdec.out)
                  go_wp2_with (refine wpList_store_row rfl 24 (.tmp 2) (.tmp 99) rfl B RW.noM rfl rfl 24 RW.noM hres hno' rfl hnoo' ?_)
                  exact bodyPost_ret (rdec_results _ _ B RW.noM 10 rfl rfl rfl (setRow_heap _ _ _ _ _ _ hres)) rfl hfin.out
                · have hnx := RW.rdL_next hP.out.2.2.2.1 hD
                  have hk := RW.decS_len _ _ _ hD
                  rw [List.length_drop, hslH.out] at hk
                  have hak := hide (show a4 + c ≤ s.size by have := hP.out.1; omega)
                  have hgood := hide (show ∀ j, j ≤ k4 + 1 → (RW.rdL l (a0, false) j).2.2 = false from fun j hj => by
                    rcases Nat.lt_or_ge j (k4 + 1) with h | h
                    · exact hP.out.2.2.1 j (by omega)
                    · obtain rfl : j = k4 + 1 := by omega
                      rw [hnx.1])
                  have hnxH := hide hnx
                  rw [hD] at hSa
                  have hPd := hide hP.out.2.2.2.2
                  have hl4 := hide (RW.rdL_len l (a0, false) k4)
                  clear hD hP hk hnx
                  go_upto_region 24 with (go_at_call 58; refine hSa.out.mono ?_; rintro e w6 ⟨rfl, hB6⟩; unfold strRes; have hP1 := hide (hPd.out.next hB6); clear hB6)
                  clear hSa hPd
                  obtain ⟨v3, W3, hrun, ho3, hb3⟩ := hP1.out.own.app1 ⟨t.toArray⟩ (by rw [List.length_map, hl4.out]; omega) hP1.out.size
                  have hru : (Builtin.append_ #[22, 22] 22 #[.slice av k4 cv, .slice (some ⟨w6.heap.size, 0, none⟩) 1 1]).run Tryd.prog (w6.alloc (.cells #[.string ⟨t.toArray⟩] 9)) = .ok v3 W3 := hrun
                  have ho3H := hide ho3
                  have hb3H := hide hb3
                  have c7 : w6.cell? ⟨b, 7, none⟩ = some (.slice av k4 cv) := (cell_at hP1.out.msg 7).trans rfl
                  have hm3 := hide ((hb3.block b (Nat.lt_succ_self b)).trans hP1.out.msg)
                  have c7' : W3.cell? ⟨b, 7, none⟩ = some (.slice av k4 cv) := (cell_at hm3.out 7).trans rfl
                  have f7' : W3.frozen? ⟨b, 7, none⟩ = false := by simp [World.frozen?, hm3.out]
                  clear hrun ho3 hb3
                  obtain ⟨a5, c5, h5⟩ := own_fm ho3H.out
                  rw [show (List.map (fun x : List UInt8 => (⟨x.toArray⟩ : ByteArray)) (RW.rdL l (a0, false) k4).1 ++ [(⟨t.toArray⟩ : ByteArray)]).length = k4 + 1 by rw [List.length_append, List.length_map, hl4.out]; rfl] at h5
                  subst h5
                  go_wp2_with (at_builtin; refine wpList_app_run rfl (.tmp 101) (.tmp 103) rfl rfl rfl hru ?_)
                  go_roundw
                  case rel =>
                    refine ⟨k4 + 1, a4 + c, .slice a5 (k4 + 1) c5, by go_num, by go_num, by omega, hak.out, hlt, hgood.out, hnxH.out.1, ?_⟩
                    rw [hnxH.out.2, List.map_append]
                    refine ⟨(hP1.out.below.trans (hb3H.out.mono (by have := hP1.out.lt; omega))).setCell (p := ⟨b, 7, none⟩) (by have := hP1.out.lt; show B ≤ b; omega) _, hP1.out.lt, by simpa [World.setCell] using Nat.le_trans hP1.out.size hb3H.out.size, ?_, ?_, ?_⟩
                    · exact (Below.heap_setCell _ _ _ _ (by have := hP1.out.lt; show B ≠ b; omega)).trans ((hb3H.out.block B (by have := hP1.out.lt; omega)).trans hP1.out.res)
                    · rw [← RW.mcells_lst f ⟨d.toArray⟩ (.slice av k4 cv)]
                      exact heap_setCell_same _ _ 7 _ _ _ hm3.out
                    · exact own_keep ho3H.out (fun q hq => Below.heap_setCell _ _ _ _ (by have := (own_block ho3H.out hq).1; show q ≠ b; omega))
                  case measure => simp [intOf]; omega
              · obtain rfl : k4 = mn := by have := hP.out.2.1; omega
                have hall := RW.rdL_all hP.out.2.2.1 hP.out.2.2.2.1
                have hen := hide (RW.decM_end (K := RW.k0F) hsix.out hD1.out hD2H.out hmH.out (by rw [hdrop.out, hmt]; exact hall))
                clear hall hmt hlt
                by_cases hat : a4 = s.size
                · subst hat
                  have hts := hide (strsV_row hP.out.2.2.2.2.own.row)
                  have hone := hts.out.one
                  obtain ⟨ts, hte⟩ : ∃ x, x = (RW.rdL l (a0, false) k4).1 := ⟨_, rfl⟩
                  have htl := hide (show ts.length = k4 by rw [hte, RW.rdL_len])
                  have hsh := hide (show ∀ u ∈ ts, u.length ≤ 65536 by rw [hte]; exact RW.rdL_short l _ _)
                  rw [← hte] at hen hts
                  have hMd := hide hP.out.2.2.2.2
                  rw [← hte] at hMd
                  clear hte hP
                  have hnil : l.drop s.size = [] := by rw [List.drop_eq_nil_iff, hslH.out]; exact Nat.le_refl _
                  rw [hnil, if_neg (by simp)] at hen
                  clear hnil
                  obtain ⟨cs, hcs⟩ : ∃ cs, cs = RW.mcells f ⟨d.toArray⟩ (.slice av k4 cv) := ⟨_, rfl⟩
                  have hci := msg_info f ⟨d.toArray⟩ (.slice av k4 cv)
                  have hco := msg_one f ⟨d.toArray⟩ (.slice av k4 cv) hone
                  rw [← hcs] at hci hco
                  have hcz : RW.noM.size = cs.size := by rw [hcs]; rfl
                  have hm0 := hMd.out.msg
                  rw [← hcs] at hm0
                  obtain ⟨mv, hmv⟩ : ∃ mv, mv = RW.msgB RW.k0F f d ts := ⟨_, rfl⟩
                  have hV := hide (show Calls Tryd.prog 15 #[.agg cs] wr fun e w' => e = .returned (.bool mv) ∧ Below wr.heap.size wr w' from by
                    have h := rvalid_any f ⟨d.toArray⟩ (.slice av k4 cv) _ wr hts.out (by rw [List.length_map, htl.out]; omega) (fun u hu => by
                      obtain ⟨x, hx, rfl⟩ := List.mem_map.1 hu
                      have := hsh.out x hx
                      have e : (⟨x.toArray⟩ : ByteArray).size = x.length := by show x.toArray.size = _; simp
                      omega)
                    rw [bl_of, show (⟨d.toArray⟩ : ByteArray).data.toList = d by simp, ← hmv] at h
                    rw [hcs]
                    exact h)
                  rw [← hmv] at hen
                  have hcsH := hide hcs
                  clear hcs hone hmv htl hsh
                  have hcs8 : cs.size = 8 := by rw [← hcz]; rfl
                  have hno' := hno.out
                  have hnoo' := hnoo.out
                  cases mv
                  · go_upto_region 29 with (first
                      | (refine wpList_load_row rfl 24 (.tmp 14) rfl b rfl 24 cs (0, 0) _ hm0 Tryd.underlying24 rfl hci ?_)
                      | (go_at_call 15; refine hV.out.mono ?_; rintro e w7 ⟨rfl, hB7⟩; have hMe := hide (hMd.out.next hB7); clear hB7 hm0))
                    have hres := hMe.out.res
                    have hfin := hide (show DecOut RW.k0F l (.returned (.tuple #[.agg RW.noM, .int .i64 250])) (w7.setRow B RW.noM) ∧ Below w.heap.size w (w7.setRow B RW.noM) from ⟨by unfold DecOut; rw [hen.out]; rfl, by rw [← hBH.out]; exact RW.below_setRow hMe.out.below (Nat.le_refl _) _⟩)
                    clear hMd hV hen
                    go_wp2_with (refine wpList_store_row rfl 24 (.tmp 2) (.tmp 116) rfl B RW.noM rfl rfl 24 RW.noM hres hno' rfl hnoo' ?_)
                    exact bodyPost_ret (rdec_results _ _ B RW.noM 250 rfl rfl rfl (setRow_heap _ _ _ _ _ _ hres)) rfl hfin.out
                  · go_upto_region 29 with (first
                      | (refine wpList_load_row rfl 24 (.tmp 14) rfl b rfl 24 cs (0, 0) _ hm0 Tryd.underlying24 rfl hci ?_)
                      | (go_at_call 15; refine hV.out.mono ?_; rintro e w7 ⟨rfl, hB7⟩; have hMe := hide (hMd.out.next hB7); clear hB7 hm0))
                    have hres := hMe.out.res
                    have hm7 := hMe.out.msg
                    rw [← hcsH.out] at hm7
                    have hfin := hide (show DecOut RW.k0F l (.returned (.tuple #[.agg cs, .int .i64 0])) (w7.setRow B cs) ∧ Below w.heap.size w (w7.setRow B cs) from ⟨by
                      unfold DecOut
                      rw [hen.out]
                      refine ⟨.slice av k4 cv, by rw [hcsH.out], ?_⟩
                      exact strsV_row (StO.row (own_keep hMe.out.own fun q hq => setRow_other _ _ _ _ (by have := (own_block hMe.out.own hq).1; have := hMe.out.lt; omega))), by rw [← hBH.out]; exact RW.below_setRow hMe.out.below (Nat.le_refl _) _⟩)
                    clear hMd hV hen
                    go_wp2_with (first
                      | (refine wpList_load_row rfl 24 (.tmp 14) rfl b rfl 24 cs (0, 0) _ hm7 Tryd.underlying24 rfl hci ?_)
                      | (refine wpList_store_row rfl 24 (.tmp 2) (.tmp 117) rfl B cs rfl rfl 24 RW.noM hres hci hcz hco ?_))
                    exact bodyPost_ret (rdec_results _ _ B cs 0 hcs8 rfl rfl (setRow_heap _ _ _ _ _ _ hres)) rfl hfin.out
                · have hne : l.drop a4 ≠ [] := by rw [Ne, List.drop_eq_nil_iff, hslH.out]; have := hP.out.1; omega
                  have hdec := hide (show RW.decM RW.k0F l = .wire by rw [hen.out, if_pos hne])
                  have hati : ¬ ((a4 : Int) = (s.size : Int)) := by omega
                  have hM9 := hide hP.out.2.2.2.2
                  clear hP hen hne
                  have hres := hM9.out.res
                  have hno' := hno.out
                  have hnoo' := hnoo.out
                  have hfin := hide (hwire.out _ hM9.out.below hdec.out)
                  go_wp2_with (refine wpList_store_row rfl 24 (.tmp 2) (.tmp 111) rfl B RW.noM rfl rfl 24 RW.noM hres hno' rfl hnoo' ?_)
                  exact bodyPost_ret (rdec_results _ _ B RW.noM 10 rfl rfl rfl (setRow_heap _ _ _ _ _ _ hres)) rfl hfin.out
          · have hm : m < 0 ∨ 4000 < m := of_decide_eq_true hccH.out.symm
            have hdec := hide (RW.decM_b1 (K := RW.k0F) hsix.out hD1.out hD2H.out hm)
            clear hccH hm
            have hres := hQ2.out.res
            have hno' := hno.out
            have hnoo' := hnoo.out
            have hfin := hide (show DecOut RW.k0F l (.returned (.tuple #[.agg RW.noM, .int .i64 250])) (w2.setRow B RW.noM) ∧ Below w.heap.size w (w2.setRow B RW.noM) from ⟨by unfold DecOut; rw [hdec.out], by rw [← hBH.out]; exact RW.below_setRow hQ2.out.below (Nat.le_refl _) _⟩)
            go_wp2_with (refine wpList_store_row rfl 24 (.tmp 2) (.tmp 64) rfl B RW.noM rfl rfl 24 RW.noM hres hno' rfl hnoo' ?_)
            exact bodyPost_ret (rdec_results _ _ B RW.noM 250 rfl rfl rfl (setRow_heap _ _ _ _ _ _ hres)) rfl hfin.out
end Go.Proofs.YtcbckcojebanaaaDoor

/-
  Package royaltyref25: Valid: what it returns; only new memory is written.
-/
import Derived.Test.YtcbckcojebanaaaDoorBr2
import Derived.Test.YtcbckcojebanaaaDoorBal8
import Derived.Test.YtcbckcojebanaaaDoorRs4
namespace Go.Proofs.YtcbckcojebanaaaDoor
open Go.RowKit RG
theorem cf_rsum : ∀ args w, (callFunc 53 args).run Tryd.prog w = .ok (.enter 53 args) w := fun args w => by go_simp
/-- the sender and the receiver are sites, and two -/
def RW.nearD (n : Nat → Int) : Bool := decide ((0 ≤ n 1 ∧ n 1 < 7) ∧ (0 ≤ n 2 ∧ n 2 < 7) ∧ n 1 ≠ n 2)
theorem RW.nearD_iff {n : Nat → Int} {f : Bool} (h : f = RW.nearD n) : f = true ↔ (RW.site (n 1) = true ∧ RW.site (n 2) = true ∧ n 1 ≠ n 2) := by
  rw [h]; unfold RW.nearD RW.site
  simp only [decide_eq_true_eq]
set_option maxRecDepth 100000 in
set_option maxHeartbeats 4000000 in
theorem rvalid_far (n : Nat → Int) (d : ByteArray) (v : Value) (w : World) (hf : ¬ ((0 ≤ n 1 ∧ n 1 < 7) ∧ (0 ≤ n 2 ∧ n 2 < 7) ∧ n 1 ≠ n 2)) :
    Calls Tryd.prog 15 #[.agg (RW.mcells n d v)] w fun e w' => e = .returned (.bool false) ∧ Below w.heap.size w w' := by
  obtain ⟨cs, hcs⟩ : ∃ cs, cs = RW.mcells n d v := ⟨_, rfl⟩
  rw [← hcs]
  have hcsH := hide hcs
  clear hcs
  go_enter Tryd.func15, Tryd.ntmps15
  go_upto_region 1 with fail
  obtain ⟨b1, hb1⟩ : ∃ b, b = w.heap.size := ⟨_, rfl⟩
  have hR := MRows.new (MRows.nil (Below.refl w.heap.size w)) cs
  rw [← hb1] at hR ⊢
  refine gen_world (MRows [(b1, cs)] w) hR ?_
  clear hR hb1
  intro W hF
  have c1 : W.cell? ⟨b1, 1, none⟩ = some (.int .i64 (n 1)) := by rw [hF.cell b1 cs (by simp), hcsH.out]; rfl
  have c2 : W.cell? ⟨b1, 2, none⟩ = some (.int .i64 (n 2)) := by rw [hF.cell b1 cs (by simp), hcsH.out]; rfl
  have hFb := hide hF.below
  have hfH := hide hf
  clear hF hf
  by_cases h1 : n 1 < 0
  · go_wp2
    go_ret
    exact ⟨rfl, hFb.out⟩
  · by_cases h2 : 7 ≤ n 1
    · go_wp2
      go_ret
      exact ⟨rfl, hFb.out⟩
    · by_cases h3 : n 2 < 0
      · go_wp2
        go_ret
        exact ⟨rfl, hFb.out⟩
      · by_cases h4 : 7 ≤ n 2
        · go_wp2
          go_ret
          exact ⟨rfl, hFb.out⟩
        · have h5 : n 1 = n 2 := Classical.byContradiction fun g => hfH.out ⟨⟨by omega, by omega⟩, ⟨by omega, by omega⟩, g⟩
          go_wp2
          go_ret
          exact ⟨rfl, hFb.out⟩
set_option maxRecDepth 100000 in
set_option maxHeartbeats 4000000 in
theorem rvalid_near (n : Nat → Int) (d : ByteArray) (v : Value) (l : List ByteArray) (w : World) (hv : StrsV w v l) (hl : l.length ≤ 140737488355328) (hs : ∀ s ∈ l, s.size ≤ 9223372036854775807) (h1 : 0 ≤ n 1) (h2 : n 1 < 7) (h3 : 0 ≤ n 2) (h4 : n 2 < 7) (h5 : n 1 ≠ n 2) :
    Calls Tryd.prog 15 #[.agg (RW.mcells n d v)] w fun e w' => e = .returned (.bool (RW.msgB RW.k0F n d.data.toList (RW.bl l))) ∧ Below w.heap.size w w' := by
  have hvl : ∃ a cap, v = .slice a l.length cap := by obtain ⟨a, cap, h, _⟩ := hv; exact ⟨a, cap, h⟩
  obtain ⟨r, hr⟩ : ∃ r, r = RW.msgB RW.k0F n d.data.toList (RW.bl l) := ⟨_, rfl⟩
  rw [← hr]
  have hrH := hide hr
  clear hr
  obtain ⟨cs, hcs⟩ : ∃ cs, cs = RW.mcells n d v := ⟨_, rfl⟩
  rw [← hcs]
  have hcsH := hide hcs
  clear hcs
  go_enter Tryd.func15, Tryd.ntmps15
  go_upto_region 1 with fail
  obtain ⟨b1, hb1⟩ : ∃ b, b = w.heap.size := ⟨_, rfl⟩
  have hR := MRows.new (MRows.nil (Below.refl w.heap.size w)) cs
  rw [← hb1] at hR ⊢
  refine gen_world (MRows [(b1, cs)] w) hR ?_
  clear hR hb1
  intro W hF
  have c1 : W.cell? ⟨b1, 1, none⟩ = some (.int .i64 (n 1)) := by rw [hF.cell b1 cs (by simp), hcsH.out]; rfl
  have c2 : W.cell? ⟨b1, 2, none⟩ = some (.int .i64 (n 2)) := by rw [hF.cell b1 cs (by simp), hcsH.out]; rfl
  have c3 : W.cell? ⟨b1, 3, none⟩ = some (.int .i64 (n 3)) := by rw [hF.cell b1 cs (by simp), hcsH.out]; rfl
  have c4 : W.cell? ⟨b1, 4, none⟩ = some (.int .i64 (n 4)) := by rw [hF.cell b1 cs (by simp), hcsH.out]; rfl
  have c5 : W.cell? ⟨b1, 5, none⟩ = some (.int .i64 (n 5)) := by rw [hF.cell b1 cs (by simp), hcsH.out]; rfl
  have c6 : W.cell? ⟨b1, 6, none⟩ = some (.string d) := by rw [hF.cell b1 cs (by simp), hcsH.out]; rfl
  have c7 : W.cell? ⟨b1, 7, none⟩ = some v := by rw [hF.cell b1 cs (by simp), hcsH.out]; rfl
  have c0 : W.cell? ⟨b1, 0, none⟩ = some (.int .i64 (n 0)) := by rw [hF.cell b1 cs (by simp), hcsH.out]; rfl
  have hneH : Hid (RW.site (n 1) = true ∧ RW.site (n 2) = true ∧ n 1 ≠ n 2) := hide ⟨decide_eq_true ⟨h1, h2⟩, decide_eq_true ⟨h3, h4⟩, h5⟩
  have k1 : ¬ n 1 < 0 := by omega
  have k2 : ¬ 7 ≤ n 1 := by omega
  have k3 : ¬ n 2 < 0 := by omega
  have k4 : ¬ 7 ≤ n 2 := by omega
  go_upto_region 3 with fail
  clear h1 h2 h3 h4 h5 k1 k2 k3 k4
  go_cut [3] (fun s wx => s = .bool (RW.placedB n) ∧ W = wx)
  case first =>
    go_wp2
    all_goals go_meet
    all_goals refine ⟨congrArg Value.bool ?_, rfl⟩
    all_goals (unfold RW.placedB; first | (refine (decide_eq_false ?_).symm; omega) | (refine decide_eq_decide.2 ?_; omega))
  case rest =>
    obtain ⟨rfl, rfl⟩ := hcut
    obtain ⟨q, hq⟩ : ∃ q, q = RW.placedB n := ⟨_, rfl⟩
    rw [← hq]
    have hqH := hide hq
    clear hq
    go_upto_region 4 with fail
    go_cut [4] (fun s wx => s = .bool (RW.plainB n d.data.toList) ∧ W = wx)
    case first =>
      go_wp2
      all_goals go_meet
      all_goals refine ⟨congrArg Value.bool ?_, rfl⟩
      all_goals (unfold RW.plainB; first | (rw [decide_eq_true (show n 3 = 0 ∧ n 4 = 0 ∧ n 5 = 0 by omega), ByteArray.toList_eq]; rfl) | (rw [decide_eq_false (by omega)]; rfl))
    case rest =>
      obtain ⟨rfl, rfl⟩ := hcut
      obtain ⟨u, hu⟩ : ∃ q, q = RW.plainB n d.data.toList := ⟨_, rfl⟩
      rw [← hu]
      have huH := hide hu
      clear hu
      have hI := rids_v (hv.next hF.below) hl
      obtain ⟨x, hx⟩ : ∃ x, x = RW.asc (RW.bl l) := ⟨_, rfl⟩
      rw [← hx] at hI
      have hIH := hide hI
      have hxH := hide hx
      have hvH := hide hv
      have hvlH := hide hvl
      have hsH := hide hs
      have hFH := hide hF
      obtain ⟨W0, hW0⟩ : ∃ W0, W0 = W := ⟨_, rfl⟩
      clear hI hx hv hs hvl hF c1 c2
      go_upto_region 6 with (go_at_call 52; refine hIH.out.mono ?_; rintro e w' ⟨rfl, dI, rfl⟩)
      have hF2 : MRows [(b1, cs)] w (W.drewN dI) := hFH.out.drewN dI
      clear hIH hFH hW0
      refine gen_world (MRows [(b1, cs)] w) hF2 ?_
      clear hF2 c0 c3 c4 c5 c6 c7 W
      intro W hF
      have c3 : W.cell? ⟨b1, 3, none⟩ = some (.int .i64 (n 3)) := by rw [hF.cell b1 cs (by simp), hcsH.out]; rfl
      have c4 : W.cell? ⟨b1, 4, none⟩ = some (.int .i64 (n 4)) := by rw [hF.cell b1 cs (by simp), hcsH.out]; rfl
      have c5 : W.cell? ⟨b1, 5, none⟩ = some (.int .i64 (n 5)) := by rw [hF.cell b1 cs (by simp), hcsH.out]; rfl
      have c6 : W.cell? ⟨b1, 6, none⟩ = some (.string d) := by rw [hF.cell b1 cs (by simp), hcsH.out]; rfl
      have c7 : W.cell? ⟨b1, 7, none⟩ = some v := by rw [hF.cell b1 cs (by simp), hcsH.out]; rfl
      have c0 : W.cell? ⟨b1, 0, none⟩ = some (.int .i64 (n 0)) := by rw [hF.cell b1 cs (by simp), hcsH.out]; rfl
      have hvWH := hide (hvH.out.next hF.below)
      have hFb := hide hF.below
      have hFH := hide hF
      clear hF hvH
      by_cases k1 : n 0 = 1
      · have hk := hide (show r = _ from hrH.out.trans (RW.msgB_k1 hneH.out k1))
        rw [← huH.out] at hk
        obtain ⟨a, cap, hva⟩ := hvlH.out
        obtain ⟨m, hm⟩ : ∃ m, m = l.length := ⟨_, rfl⟩
        rw [← hm] at hk hva hl
        have hmH := hide hm
        subst hva
        have hcc : ∀ k, k < m → ∃ b o, a = some ⟨b, o, none⟩ ∧ W.cell? ⟨b, o + k, none⟩ = some (.string (l.getD k ⟨#[]⟩)) := fun k hk => by
          obtain ⟨a', cap', hv, _, h1 | ⟨b, o, ha', hb, hc⟩⟩ := hvWH.out
          · rw [hmH.out, h1] at hk; exact absurd hk (Nat.not_lt_zero _)
          · injection hv with e1 e2 e3
            exact ⟨b, o, e1.trans ha', hc k (by rw [← hmH.out]; exact hk)⟩
        have hccH := hide hcc
        clear hm hcc hrH hvWH hvlH huH hneH hqH hcsH hFH hxH
        go_wp2
        go_loopw [6] (fun i wr => ∃ k : Nat, k ≤ m ∧ i = .int .i64 k ∧ W = wr ∧ Hid ((l.take k).any RW.longB = false)) (fun i _ => m - (intOf i).toNat)
        case atStart => exact ⟨0, Nat.zero_le _, rfl, rfl, rfl⟩
        case round =>
          obtain ⟨k, hkm, rfl, rfl, hno⟩ := hrel
          by_cases hlt : k < m
          · have hkl : k < l.length := by rw [← hmH.out]; exact hlt
            have hstep := RW.any_take l RW.longB k hkl
            have hyes := RW.any_yes l RW.longB k hkl
            obtain ⟨b, o, rfl, ck⟩ := hccH.out k hlt
            have hsz := hsH.out (l.getD k ⟨#[]⟩) (by rw [List.getD, List.getElem?_eq_getElem hkl]; exact List.getElem_mem hkl)
            obtain ⟨s, hsd⟩ : ∃ s, s = l.getD k ⟨#[]⟩ := ⟨_, rfl⟩
            rw [← hsd] at ck hstep hsz hyes
            clear hsd
            by_cases h1 : s.size < 1
            · have hlong := hide (hyes (decide_eq_true (.inl h1)))
              clear hstep hyes
              go_wp2
              go_ret
              exact ⟨by rw [hk.out, hlong.out, Bool.not_true, Bool.and_false] <;> rfl, hFb.out⟩
            · by_cases h2 : 4000 < s.size
              · have hlong := hide (hyes (decide_eq_true (.inr h2)))
                clear hstep hyes
                go_wp2
                go_ret
                exact ⟨by rw [hk.out, hlong.out, Bool.not_true, Bool.and_false] <;> rfl, hFb.out⟩
              · rw [hno.out, show RW.longB s = false from decide_eq_false (by omega), Bool.or_self] at hstep
                have hstH := hide hstep
                clear hstep hyes
                go_wp2
                go_roundw
                case rel => exact ⟨k + 1, by omega, by go_num, by trivial, hstH.out⟩
                case measure => (simp [intOf] <;> omega)
          · obtain rfl : k = m := by omega
            rw [hmH.out, List.take_length] at hno
            have hnoH := hide hno.out
            clear hno
            rw [hnoH.out, Bool.not_false, Bool.and_true] at hk
            go_wp2
            all_goals go_ret
            all_goals refine ⟨?_, hFb.out⟩
            all_goals refine congrArg (fun b => Ending.returned (Value.bool b)) ?_
            all_goals rw [hk.out]
            all_goals (cases u <;> first | contradiction | rfl | (exact absurd rfl (by assumption)) | (refine Bool.eq_iff_iff.2 ?_; simp only [Bool.and_eq_true, Bool.false_eq_true, decide_eq_true_eq, true_and, and_false, true_iff, false_iff]; first | done | omega))
      · by_cases k2 : n 0 = 2
        · have hk := hide (show r = _ from hrH.out.trans (RW.msgB_k2 hneH.out k2))
          rw [← huH.out, ← hxH.out] at hk
          obtain ⟨a, cap, hva⟩ := hvlH.out
          subst hva
          clear hrH hvWH hvlH huH hneH hqH hcsH hFH hxH hsH
          go_wp2
          all_goals go_ret
          all_goals refine ⟨?_, hFb.out⟩
          all_goals refine congrArg (fun b => Ending.returned (Value.bool b)) ?_
          all_goals rw [hk.out]
          all_goals (cases u <;> cases x <;> first | contradiction | rfl | (exact absurd rfl (by assumption)) | (refine Bool.eq_iff_iff.2 ?_; simp only [Bool.and_eq_true, Bool.false_eq_true, decide_eq_true_eq, true_and, and_true, and_false, true_iff, false_iff]; first | done | omega))
        · by_cases k3 : n 0 = 3
          · have hk := hide (show r = _ from hrH.out.trans (RW.msgB_k3 hneH.out k3))
            rw [← hqH.out, ← hxH.out] at hk
            obtain ⟨T, ec, hres, hec, hT⟩ := valRes_parts l
            have hVal := rvalue_any hvWH.out hl
            rw [hres] at hVal
            rw [← hxH.out] at hT
            have hSum : x = true → ∀ W, Calls Tryd.prog 53 #[.string T] W fun e w' => e = .returned (.string ⟨(RW.sha RW.k0F (RW.valL (RW.bl l))).toArray⟩) ∧ Below W.heap.size W w' := fun h W => by
              obtain ⟨h1, h2⟩ := hT h
              rw [← h1]
              exact rsum_any T (by omega) W
            obtain ⟨H, hH⟩ : ∃ H : ByteArray, H = ⟨(RW.sha RW.k0F (RW.valL (RW.bl l))).toArray⟩ := ⟨_, rfl⟩
            rw [← hH] at hSum
            obtain ⟨g2, hg2⟩ : ∃ g, g = (q && x) := ⟨_, rfl⟩
            obtain ⟨g3, hg3⟩ : ∃ g, g = (g2 && decide (-1 ≤ n 5)) := ⟨_, rfl⟩
            obtain ⟨g4, hg4⟩ : ∃ g, g = (g3 && decide (n 5 < n 4)) := ⟨_, rfl⟩
            obtain ⟨g5, hg5⟩ : ∃ g, g = (g4 && (d.toList == H.toList)) := ⟨_, rfl⟩
            have hgx : g4 = true → x = true := fun h => by
              rw [hg4, hg3, hg2] at h
              simp only [Bool.and_eq_true] at h
              exact h.1.1.2
            have hend : r = g5 := by
              rw [hk.out, hg5, hg4, hg3, hg2, hH, ByteArray.toList_eq, ByteArray.toList_eq]
              by_cases h1 : -1 ≤ n 5 <;> by_cases h2 : n 5 < n 4 <;> cases q <;> cases x <;> simp [h1, h2]
            have hp2 := hide hg2
            have hp3 := hide hg3
            have hp4 := hide hg4
            have hp5 := hide hg5
            have hendH := hide hend
            have hValH := hide hVal
            have hSumH := hide hSum
            have hgxH := hide hgx
            clear hg2 hg3 hg4 hg5 hend hec hVal hSum hgx hH hT hres hk hrH hvWH hvlH huH hneH hqH hsH hxH
            go_upto_region 18 with (go_at_call 27; refine hValH.out.mono ?_; rintro e w2 ⟨rfl, hB2⟩; have hF2 := hFH.out.next hB2; clear hB2)
            clear c0 c3 c4 c5 c6 c7
            refine wp_region_staged (fun _ w' => MRows [(b1, cs)] w w') [] (by kernel_rfl) (by kernel_rfl) (by rfl) (hF2.drewN 1) ?_
            refine st_val (.bool q) (by rfl) (by rfl) (fun w => rfl) ?_
            simp only [Act.put, List.setIfInBounds_toArray, List.set_cons_zero, List.set_cons_succ]
            refine st_val (.bool q) (by rfl) (by rfl) (fun w => rfl) ?_
            simp only [Act.put, List.setIfInBounds_toArray, List.set_cons_zero, List.set_cons_succ]
            refine st_if q (.bool x) (by cases q <;> rfl) (by rfl) (fun h j w0 _ hS => ⟨rfl, hS⟩) ?_
            simp only [Act.put, List.setIfInBounds_toArray, List.set_cons_zero, List.set_cons_succ]
            refine st_val (.bool g2) (by rfl) (by rfl) (fun w => op_pick rfl rfl rfl rfl (by rw [hp2.out]; cases q <;> rfl)) ?_
            simp only [Act.put, List.setIfInBounds_toArray, List.set_cons_zero, List.set_cons_succ]
            refine st_val (.bool g2) (by rfl) (by rfl) (fun w => rfl) ?_
            simp only [Act.put, List.setIfInBounds_toArray, List.set_cons_zero, List.set_cons_succ]
            refine st_if g2 (.pointer (some ⟨b1, 5, none⟩)) (by cases g2 <;> rfl) (by rfl) (fun h j w0 _ hS => by rw [op_fa_5 rfl rfl]; exact ⟨rfl, hS⟩) ?_
            simp only [Act.put, List.setIfInBounds_toArray, List.set_cons_zero, List.set_cons_succ]
            refine st_if g2 (.int .i64 (n 5)) (by cases g2 <;> rfl) (by rfl) (fun h j w0 _ hS => by rw [op_load_int rfl (gd_pos h) (n := n 5) (by rw [hS.cell b1 cs (by simp), hcsH.out]; rfl)]; exact ⟨rfl, hS⟩) ?_
            simp only [Act.put, List.setIfInBounds_toArray, List.set_cons_zero, List.set_cons_succ]
            refine st_if g2 (.bool (decide (-1 ≤ n 5))) (by cases g2 <;> rfl) (by rfl) (fun h j w0 _ hS => by rw [op_geq rfl (gd_pos h) rfl]; exact ⟨rfl, hS⟩) ?_
            simp only [Act.put, List.setIfInBounds_toArray, List.set_cons_zero, List.set_cons_succ]
            refine st_val (.bool g3) (by rfl) (by rfl) (fun w => op_pick rfl rfl rfl rfl (by rw [hp3.out]; cases g2 <;> rfl)) ?_
            simp only [Act.put, List.setIfInBounds_toArray, List.set_cons_zero, List.set_cons_succ]
            refine st_val (.bool g3) (by rfl) (by rfl) (fun w => rfl) ?_
            simp only [Act.put, List.setIfInBounds_toArray, List.set_cons_zero, List.set_cons_succ]
            refine st_if g3 (.pointer (some ⟨b1, 5, none⟩)) (by cases g3 <;> rfl) (by rfl) (fun h j w0 _ hS => by rw [op_fa_5 rfl rfl]; exact ⟨rfl, hS⟩) ?_
            simp only [Act.put, List.setIfInBounds_toArray, List.set_cons_zero, List.set_cons_succ]
            refine st_if g3 (.int .i64 (n 5)) (by cases g3 <;> rfl) (by rfl) (fun h j w0 _ hS => by rw [op_load_int rfl (gd_pos h) (n := n 5) (by rw [hS.cell b1 cs (by simp), hcsH.out]; rfl)]; exact ⟨rfl, hS⟩) ?_
            simp only [Act.put, List.setIfInBounds_toArray, List.set_cons_zero, List.set_cons_succ]
            refine st_if g3 (.pointer (some ⟨b1, 4, none⟩)) (by cases g3 <;> rfl) (by rfl) (fun h j w0 _ hS => by rw [op_fa_4 rfl rfl]; exact ⟨rfl, hS⟩) ?_
            simp only [Act.put, List.setIfInBounds_toArray, List.set_cons_zero, List.set_cons_succ]
            refine st_if g3 (.int .i64 (n 4)) (by cases g3 <;> rfl) (by rfl) (fun h j w0 _ hS => by rw [op_load_int rfl (gd_pos h) (n := n 4) (by rw [hS.cell b1 cs (by simp), hcsH.out]; rfl)]; exact ⟨rfl, hS⟩) ?_
            simp only [Act.put, List.setIfInBounds_toArray, List.set_cons_zero, List.set_cons_succ]
            refine st_if g3 (.bool (decide (n 5 < n 4))) (by cases g3 <;> rfl) (by rfl) (fun h j w0 _ hS => by rw [op_lss rfl (gd_pos h) (gd_pos h)]; exact ⟨rfl, hS⟩) ?_
            simp only [Act.put, List.setIfInBounds_toArray, List.set_cons_zero, List.set_cons_succ]
            refine st_val (.bool g4) (by rfl) (by rfl) (fun w => op_pick rfl rfl rfl rfl (by rw [hp4.out]; cases g3 <;> rfl)) ?_
            simp only [Act.put, List.setIfInBounds_toArray, List.set_cons_zero, List.set_cons_succ]
            refine st_val (.bool g4) (by rfl) (by rfl) (fun w => rfl) ?_
            simp only [Act.put, List.setIfInBounds_toArray, List.set_cons_zero, List.set_cons_succ]
            refine st_if g4 (.pointer (some ⟨b1, 6, none⟩)) (by cases g4 <;> rfl) (by rfl) (fun h j w0 _ hS => by rw [op_fa_6 rfl rfl]; exact ⟨rfl, hS⟩) ?_
            simp only [Act.put, List.setIfInBounds_toArray, List.set_cons_zero, List.set_cons_succ]
            refine st_if g4 (.string d) (by cases g4 <;> rfl) (by rfl) (fun h j w0 _ hS => by rw [op_load_str rfl (gd_pos h) (n := d) (by rw [hS.cell b1 cs (by simp), hcsH.out]; rfl)]; exact ⟨rfl, hS⟩) ?_
            simp only [Act.put, List.setIfInBounds_toArray, List.set_cons_zero, List.set_cons_succ]
            refine st_if g4 (.string T) (by cases g4 <;> rfl) (by rfl) (fun h j w0 _ hS => ⟨rfl, hS⟩) ?_
            simp only [Act.put, List.setIfInBounds_toArray, List.set_cons_zero, List.set_cons_succ]
            refine st_if g4 (.string H) (by cases g4 <;> rfl) (by rfl) (fun h j w0 _ hS => by rw [op_call1 rfl rfl (gd_pos h) cf_rsum]; exact (hSumH.out (hgxH.out h) w0).mono fun e w' h => by obtain ⟨rfl, hB⟩ := h; exact ⟨rfl, hS.next hB⟩) ?_
            simp only [Act.put, List.setIfInBounds_toArray, List.set_cons_zero, List.set_cons_succ]
            refine st_if g4 (.bool (d.toList == H.toList)) (by cases g4 <;> rfl) (by rfl) (fun h j w0 _ hS => by rw [op_eql_str rfl (gd_pos h) (gd_pos h)]; exact ⟨rfl, hS⟩) ?_
            simp only [Act.put, List.setIfInBounds_toArray, List.set_cons_zero, List.set_cons_succ]
            refine st_val (.bool g5) (by rfl) (by rfl) (fun w => op_pick rfl rfl rfl rfl (by rw [hp5.out]; cases g4 <;> rfl)) ?_
            simp only [Act.put, List.setIfInBounds_toArray, List.set_cons_zero, List.set_cons_succ]
            refine st_val (.bool g5) (by rfl) (by rfl) (fun w => rfl) ?_
            simp only [Act.put, List.setIfInBounds_toArray, List.set_cons_zero, List.set_cons_succ]
            refine st_nil ?_
            intro w3 hF3
            have hF3b := hide hF3.below
            clear hF3
            go_wp2
            go_ret
            exact ⟨by rw [hendH.out] <;> rfl, hF3b.out⟩
          · by_cases k4 : n 0 = 4 ∨ n 0 = 5 ∨ n 0 = 6
            · have hk := hide (show r = _ from hrH.out.trans (RW.msgB_k4 hneH.out (decide_eq_true (by omega))))
              rw [← hqH.out] at hk
              obtain ⟨a, cap, hva⟩ := hvlH.out
              subst hva
              clear hrH hvWH hvlH huH hneH hqH hcsH hFH hxH hsH
              rcases k4 with k4 | k4 | k4
              all_goals go_wp2
              all_goals go_ret
              all_goals refine ⟨?_, hFb.out⟩
              all_goals refine congrArg (fun b => Ending.returned (Value.bool b)) ?_
              all_goals rw [hk.out]
              all_goals first
                | (rename_i hq h5 hl0 hd; rw [ByteArray.toList_eq] at hd; rw [hq, decide_eq_true h5, hl0, hd]; rfl)
                | (rename_i hq h5 hl0 hd; rw [hq, decide_eq_true h5, hl0, ByteArray.toList_eq, RW.len32]; rfl)
                | (rename_i hq h5 hl0; rw [decide_eq_false (show ¬ l.length = 0 from fun g => hl0 (List.length_eq_zero_iff.1 g)), Bool.and_false]; rfl)
                | (rename_i hq h5; rw [decide_eq_false h5, Bool.and_false]; rfl)
                | (rename_i hq; rw [show q = false by simpa using hq]; rfl)
            · have hk := hide (show r = _ from hrH.out.trans (RW.msgB_k0 hneH.out k1 k2 k3 (decide_eq_false (by omega))))
              have k40 : n 0 ≠ 4 := by omega
              have k50 : n 0 ≠ 5 := by omega
              have k60 : n 0 ≠ 6 := by omega
              clear hrH hvWH hvlH huH hneH hqH hcsH hFH hxH hsH k4
              go_wp2
              go_ret
              exact ⟨by rw [hk.out] <;> rfl, hFb.out⟩
theorem rvalid_any (n : Nat → Int) (d : ByteArray) (v : Value) (l : List ByteArray) (w : World) (hv : StrsV w v l) (hl : l.length ≤ 140737488355328) (hs : ∀ s ∈ l, s.size ≤ 9223372036854775807) :
    Calls Tryd.prog 15 #[.agg (RW.mcells n d v)] w fun e w' => e = .returned (.bool (RW.msgB RW.k0F n d.data.toList (RW.bl l))) ∧ Below w.heap.size w w' := by
  by_cases hf : (0 ≤ n 1 ∧ n 1 < 7) ∧ (0 ≤ n 2 ∧ n 2 < 7) ∧ n 1 ≠ n 2
  · exact rvalid_near n d v l w hv hl hs hf.1.1 hf.1.2 hf.2.1.1 hf.2.1.2 hf.2.2
  · rw [RW.msgB_far (fun g => hf ⟨of_decide_eq_true g.1, of_decide_eq_true g.2.1, g.2.2⟩)]
    exact rvalid_far n d v w hf
end Go.Proofs.YtcbckcojebanaaaDoor

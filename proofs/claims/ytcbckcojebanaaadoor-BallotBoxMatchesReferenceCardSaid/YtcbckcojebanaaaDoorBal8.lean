/-
  Package ballot: Valid: what it returns; only new memory is written.
-/
import Derived.Test.YtcbckcojebanaaaDoorMC
import Derived.Test.YtcbckcojebanaaaDoorMZ3
import Derived.Test.YtcbckcojebanaaaDoorMZ1
import Derived.Test.YtcbckcojebanaaaDoorMB
namespace Go.Proofs.YtcbckcojebanaaaDoor
open Go.RowKit RG
theorem bsum_any (s : ByteArray) (hs : s.size ≤ 1099511627776) (K : Nat → Int) (ks : Array Value) (hks : RW.WsOk ks K) (w : World) (hK : KLaid w ks) :
    Calls Tryd.prog 39 #[.string s] w fun e w' => e = .returned (.string ⟨(RW.sha K s.data.toList).toArray⟩) ∧ Below w.heap.size w w' :=
  callsIn_wide.1 (sum_in Fence.wide (show Fence.wide = Fence.wide from rfl) 3 trivial trivial rfl (by omega) s hs K ks hks w hK)
theorem bklaid {w w' : World} {ks : Array Value} (h : KLaid w ks) (hB : Below w.heap.size w w') : KLaid w' ks := by
  obtain ⟨t, fr, h⟩ := h
  exact ⟨t, fr, (hB.block _ (Array.getElem?_eq_some_iff.1 h).1).trans h⟩
theorem valRes_parts (l : List ByteArray) : ∃ (T : ByteArray) (ec : Int), valRes l = .tuple #[.string T, .int .i64 ec] ∧ (ec == 0) = RW.asc (RW.bl l) ∧ (RW.asc (RW.bl l) = true → T.data.toList = RW.valL (RW.bl l) ∧ T.size ≤ 200000) := by
  unfold valRes
  cases ha : RW.asc (RW.bl l)
  · exact ⟨⟨#[]⟩, 250, rfl, rfl, fun h => by cases h⟩
  · refine ⟨⟨(RW.valL (RW.bl l)).toArray⟩, 0, rfl, rfl, fun _ => ⟨by simp, ?_⟩⟩
    obtain ⟨_, h2, _⟩ := RW.asc_lims ha
    have h3 := RW.putI_len (RW.bl l).length
    show (RW.valL (RW.bl l)).toArray.size ≤ _
    rw [List.size_toArray, RW.valL, List.length_append]
    omega
theorem cf_sum : ∀ args w, (callFunc 39 args).run Tryd.prog w = .ok (.enter 39 args) w := fun args w => by go_simp
set_option maxRecDepth 100000 in
set_option maxHeartbeats 4000000 in
theorem valid_any (n : Nat → Int) (d : ByteArray) (v : Value) (l : List ByteArray) (w : World) (K : Nat → Int) (hv : StrsV w v l) (hl : l.length ≤ 140737488355328) (hs : ∀ s ∈ l, s.size ≤ 9223372036854775807) (ks : Array Value) (hks : RW.WsOk ks K) (hK : KLaid w ks) :
    Calls Tryd.prog 14 #[.agg (RW.mcells n d v)] w fun e w' => e = .returned (.bool (RW.msgB K n d.data.toList (RW.bl l))) ∧ Below w.heap.size w w' := by
  have hvl : ∃ a cap, v = .slice a l.length cap := by obtain ⟨a, cap, h, _⟩ := hv; exact ⟨a, cap, h⟩
  have hS1 := site_any (n 1)
  have hS2 := site_any (n 2)
  obtain ⟨r, hr⟩ : ∃ r, r = RW.msgB K n d.data.toList (RW.bl l) := ⟨_, rfl⟩
  rw [← hr]
  have hrH := hide hr
  clear hr
  obtain ⟨p1, hp1⟩ : ∃ p, p = RW.site (n 1) := ⟨_, rfl⟩
  obtain ⟨p2, hp2⟩ : ∃ p, p = RW.site (n 2) := ⟨_, rfl⟩
  rw [← hp1] at hS1
  rw [← hp2] at hS2
  have hp1H := hide hp1
  have hp2H := hide hp2
  obtain ⟨cs, hcs⟩ : ∃ cs, cs = RW.mcells n d v := ⟨_, rfl⟩
  rw [← hcs]
  have hcsH := hide hcs
  clear hcs hp1 hp2
  go_enter Tryd.func14, Tryd.ntmps14
  go_upto_region 1 with fail
  obtain ⟨b1, hb1⟩ : ∃ b, b = w.heap.size := ⟨_, rfl⟩
  have hR := MRows.new (MRows.nil (Below.refl w.heap.size w)) cs
  rw [← hb1] at hR ⊢
  refine gen_world (MRows [(b1, cs)] w) hR ?_
  clear hR hb1
  intro W hF
  have c1 : W.cell? ⟨b1, 1, none⟩ = some (.int .i64 (n 1)) := by rw [hF.cell b1 cs (by simp), hcsH.out]; rfl
  have c2 : W.cell? ⟨b1, 2, none⟩ = some (.int .i64 (n 2)) := by rw [hF.cell b1 cs (by simp), hcsH.out]; rfl
  have c3 : W.cell? ⟨b1, 3, none⟩ = some (.int .i64 (n 3)) := by rw [hF.cell b1 cs (by simp), hcsH.out]; rfl
  have c4 : W.cell? ⟨b1, 4, none⟩ = some (.int .i64 (n 4)) := by rw [hF.cell b1 cs (by simp), hcsH.out]; rfl
  have c5 : W.cell? ⟨b1, 5, none⟩ = some (.int .i64 (n 5)) := by rw [hF.cell b1 cs (by simp), hcsH.out]; rfl
  have c6 : W.cell? ⟨b1, 6, none⟩ = some (.string d) := by rw [hF.cell b1 cs (by simp), hcsH.out]; rfl
  have c7 : W.cell? ⟨b1, 7, none⟩ = some v := by rw [hF.cell b1 cs (by simp), hcsH.out]; rfl
  have c0 : W.cell? ⟨b1, 0, none⟩ = some (.int .i64 (n 0)) := by rw [hF.cell b1 cs (by simp), hcsH.out]; rfl
  have hS1H := hide hS1
  have hS2H := hide hS2
  clear hS1 hS2
  go_upto_region 3 with (first
    | (go_at_call 47; first
      | (refine (hS1H.out _).mono ?_; rintro e w' ⟨rfl, rfl⟩)
      | (refine (hS2H.out _).mono ?_; rintro e w' ⟨rfl, rfl⟩)))
  · rename_i h1 h2 h3
    go_ret
    exact ⟨by rw [hrH.out, RW.msgB_far (fun g => g.2.2 (by simpa using h3))] <;> rfl, hF.below⟩
  · rename_i h1 h2 h3 Q hQ
    have hne : RW.site (n 1) = true ∧ RW.site (n 2) = true ∧ n 1 ≠ n 2 := ⟨hp1H.out ▸ h1, hp2H.out ▸ h2, by simpa using h3⟩
    have hneH := hide hne
    clear hne h1 h2 h3
    go_cut [3] (fun s3 wx => s3 = .bool (RW.placedB n) ∧ wx = W)
    case first =>
      go_wp2
      all_goals go_meet
      all_goals refine ⟨congrArg Value.bool ?_, rfl⟩
      all_goals (unfold RW.placedB; first | (refine (decide_eq_false ?_).symm; omega) | (refine decide_eq_decide.2 ?_; omega))
    case rest =>
      obtain ⟨rfl, rfl⟩ := hcut
      obtain ⟨q, hq⟩ : ∃ q, q = RW.placedB n := ⟨_, rfl⟩
      rw [← hq]
      have hqH := hide hq
      clear hq
      go_upto_region 4 with fail
      go_cut [4] (fun s4 wx => s4 = .bool (RW.plainB n d.data.toList) ∧ wx = wc)
      case first =>
        go_wp2
        all_goals go_meet
        all_goals refine ⟨congrArg Value.bool ?_, rfl⟩
        all_goals (unfold RW.plainB; first | (rw [decide_eq_true (show n 3 = 0 ∧ n 4 = 0 ∧ n 5 = 0 by omega), ByteArray.toList_eq]; rfl) | (rw [decide_eq_false (by omega)]; rfl))
      case rest =>
        obtain ⟨rfl, rfl⟩ := hcut
        obtain ⟨u, hu⟩ : ∃ q, q = RW.plainB n d.data.toList := ⟨_, rfl⟩
        rw [← hu]
        have huH := hide hu
        clear hu
        have hvW := hv.next hF.below
        have hvlH := hide hvl
        have hvWH := hide hvW
        have hsH := hide hs
        clear hv hvl hvW hs hS1H hS2H hp1H hp2H
        have hFb := hide hF.below
        have hFH := hide hF
        have hKH := hide hK
        have hksH := hide hks
        clear hF c1 c2 hK hks
        by_cases k1 : n 0 = 1
        · have hk := hide (show r = _ from hrH.out.trans (RW.msgB_k1 hneH.out k1))
          rw [← huH.out] at hk
          have hC := contains_v hvWH.out hl hsH.out
          obtain ⟨x, hx⟩ : ∃ x, x = l.any RW.longB := ⟨_, rfl⟩
          rw [← hx] at hk hC
          have hCH := hide hC
          obtain ⟨a, cap, hva⟩ := hvlH.out
          subst hva
          clear hC hx hrH hvWH hvlH huH hneH hqH hcsH hsH
          go_wp2_with (go_at_call 48; refine hCH.out.mono ?_; rintro e w' ⟨rfl, rfl⟩)
          all_goals go_ret
          all_goals refine ⟨?_, hFb.out⟩
          all_goals refine congrArg (fun b => Ending.returned (Value.bool b)) ?_
          all_goals rw [hk.out]
          all_goals (cases u <;> cases x <;> first | contradiction | rfl | (exact absurd rfl (by assumption)) | (refine Bool.eq_iff_iff.2 ?_; (try simp only [Bool.not_false]); (try simp only [Bool.not_true]); simp only [Bool.and_eq_true, Bool.false_eq_true, decide_eq_true_eq, true_and, and_true, and_false, false_iff]; first | done | omega))
        · by_cases k2 : n 0 = 2
          · have hk := hide (show r = _ from hrH.out.trans (RW.msgB_k2 hneH.out k2))
            rw [← huH.out] at hk
            have hC := asc_v hvWH.out hl
            obtain ⟨x, hx⟩ : ∃ x, x = RW.asc (RW.bl l) := ⟨_, rfl⟩
            rw [← hx] at hk hC
            have hCH := hide hC
            obtain ⟨a, cap, hva⟩ := hvlH.out
            subst hva
            clear hC hx hrH hvWH hvlH huH hneH hqH hcsH hsH
            go_wp2_with (go_at_call 50; refine hCH.out.mono ?_; rintro e w' ⟨rfl, rfl⟩)
            all_goals go_ret
            all_goals refine ⟨?_, hFb.out⟩
            all_goals refine congrArg (fun b => Ending.returned (Value.bool b)) ?_
            all_goals rw [hk.out]
            all_goals (cases u <;> cases x <;> first | contradiction | rfl | (exact absurd rfl (by assumption)) | (refine Bool.eq_iff_iff.2 ?_; (try simp only [Bool.not_false]); (try simp only [Bool.not_true]); simp only [Bool.and_eq_true, Bool.false_eq_true, decide_eq_true_eq, true_and, and_true, and_false, true_iff, false_iff]; first | done | omega))
          · by_cases k3 : n 0 = 3
            · have hk := hide (show r = _ from hrH.out.trans (RW.msgB_k3 hneH.out k3))
              rw [← hqH.out] at hk
              obtain ⟨T, ec, hres, hec, hT⟩ := valRes_parts l
              have hVal := value_any hvWH.out hl
              rw [hres] at hVal
              obtain ⟨x, hx⟩ : ∃ x, x = RW.asc (RW.bl l) := ⟨_, rfl⟩
              rw [← hx] at hk hec hT
              have hSum : x = true → ∀ W, Below w.heap.size w W → Calls Tryd.prog 39 #[.string T] W fun e w' => e = .returned (.string ⟨(RW.sha K (RW.valL (RW.bl l))).toArray⟩) ∧ Below W.heap.size W w' := fun h W hB => by
                obtain ⟨h1, h2⟩ := hT h
                rw [← h1]
                exact bsum_any T (by omega) K ks hksH.out W (bklaid hKH.out hB)
              obtain ⟨H, hH⟩ : ∃ H : ByteArray, H = ⟨(RW.sha K (RW.valL (RW.bl l))).toArray⟩ := ⟨_, rfl⟩
              rw [← hH] at hSum
              obtain ⟨g2, hg2⟩ : ∃ g, g = (q && x) := ⟨_, rfl⟩
              obtain ⟨g3, hg3⟩ : ∃ g, g = (g2 && decide (-1 ≤ n 5)) := ⟨_, rfl⟩
              obtain ⟨g4, hg4⟩ : ∃ g, g = (g3 && decide (n 5 < n 4)) := ⟨_, rfl⟩
              obtain ⟨g5, hg5⟩ : ∃ g, g = (g4 && (d.toList == H.toList)) := ⟨_, rfl⟩
              have hgx : g4 = true → x = true := fun h => by
                rw [hg4, hg3, hg2] at h
                simp only [Bool.and_eq_true] at h
                exact h.1.1.2
              have hend : r = g5 := by
                rw [hk.out, hg5, hg4, hg3, hg2, hH, ByteArray.toList_eq, ByteArray.toList_eq]
                by_cases h1 : -1 ≤ n 5 <;> by_cases h2 : n 5 < n 4 <;> cases q <;> cases x <;> simp [h1, h2]
              have hp2 := hide hg2
              have hp3 := hide hg3
              have hp4 := hide hg4
              have hp5 := hide hg5
              have hendH := hide hend
              have hecH := hide hec
              have hValH := hide hVal
              have hSumH := hide hSum
              have hgxH := hide hgx
              clear hg2 hg3 hg4 hg5 hend hec hVal hSum hgx hH hx hT hres hk hrH hvWH hvlH huH hneH hqH hsH hKH hksH
              go_upto_region 12 with (go_at_call 26; refine hValH.out.mono ?_; rintro e w2 ⟨rfl, hB2⟩; have hF2 := hFH.out.next hB2; clear hB2)
              clear c0 c3 c4 c5 c6 c7
              refine wp_region_staged (fun _ w' => MRows [(b1, cs)] w w') [] (by kernel_rfl) (by kernel_rfl) (by rfl) (hF2.drewN 1) ?_
              refine st_val (.bool q) (by rfl) (by rfl) (fun w => rfl) ?_
              simp only [Act.put, List.setIfInBounds_toArray, List.set_cons_zero, List.set_cons_succ]
              refine st_val (.bool q) (by rfl) (by rfl) (fun w => rfl) ?_
              simp only [Act.put, List.setIfInBounds_toArray, List.set_cons_zero, List.set_cons_succ]
              refine st_if q (.int .i64 ec) (by cases q <;> rfl) (by rfl) (fun h j w0 _ hS => ⟨rfl, hS⟩) ?_
              simp only [Act.put, List.setIfInBounds_toArray, List.set_cons_zero, List.set_cons_succ]
              refine st_if q (.bool x) (by cases q <;> rfl) (by rfl) (fun h j w0 _ hS => by rw [op_eql_errno rfl (gd_pos h) rfl, hecH.out]; exact ⟨rfl, hS⟩) ?_
              simp only [Act.put, List.setIfInBounds_toArray, List.set_cons_zero, List.set_cons_succ]
              refine st_val (.bool g2) (by rfl) (by rfl) (fun w => op_pick rfl rfl rfl rfl (by rw [hp2.out]; cases q <;> rfl)) ?_
              simp only [Act.put, List.setIfInBounds_toArray, List.set_cons_zero, List.set_cons_succ]
              refine st_val (.bool g2) (by rfl) (by rfl) (fun w => rfl) ?_
              simp only [Act.put, List.setIfInBounds_toArray, List.set_cons_zero, List.set_cons_succ]
              refine st_if g2 (.pointer (some ⟨b1, 5, none⟩)) (by cases g2 <;> rfl) (by rfl) (fun h j w0 _ hS => by rw [op_fa_5 rfl rfl]; exact ⟨rfl, hS⟩) ?_
              simp only [Act.put, List.setIfInBounds_toArray, List.set_cons_zero, List.set_cons_succ]
              refine st_if g2 (.int .i64 (n 5)) (by cases g2 <;> rfl) (by rfl) (fun h j w0 _ hS => by rw [op_load_int rfl (gd_pos h) (n := n 5) (by rw [hS.cell b1 cs (by simp), hcsH.out]; rfl)]; exact ⟨rfl, hS⟩) ?_
              simp only [Act.put, List.setIfInBounds_toArray, List.set_cons_zero, List.set_cons_succ]
              refine st_if g2 (.bool (decide (-1 ≤ n 5))) (by cases g2 <;> rfl) (by rfl) (fun h j w0 _ hS => by rw [op_geq rfl (gd_pos h) rfl]; exact ⟨rfl, hS⟩) ?_
              simp only [Act.put, List.setIfInBounds_toArray, List.set_cons_zero, List.set_cons_succ]
              refine st_val (.bool g3) (by rfl) (by rfl) (fun w => op_pick rfl rfl rfl rfl (by rw [hp3.out]; cases g2 <;> rfl)) ?_
              simp only [Act.put, List.setIfInBounds_toArray, List.set_cons_zero, List.set_cons_succ]
              refine st_val (.bool g3) (by rfl) (by rfl) (fun w => rfl) ?_
              simp only [Act.put, List.setIfInBounds_toArray, List.set_cons_zero, List.set_cons_succ]
              refine st_if g3 (.pointer (some ⟨b1, 5, none⟩)) (by cases g3 <;> rfl) (by rfl) (fun h j w0 _ hS => by rw [op_fa_5 rfl rfl]; exact ⟨rfl, hS⟩) ?_
              simp only [Act.put, List.setIfInBounds_toArray, List.set_cons_zero, List.set_cons_succ]
              refine st_if g3 (.int .i64 (n 5)) (by cases g3 <;> rfl) (by rfl) (fun h j w0 _ hS => by rw [op_load_int rfl (gd_pos h) (n := n 5) (by rw [hS.cell b1 cs (by simp), hcsH.out]; rfl)]; exact ⟨rfl, hS⟩) ?_
              simp only [Act.put, List.setIfInBounds_toArray, List.set_cons_zero, List.set_cons_succ]
              refine st_if g3 (.pointer (some ⟨b1, 4, none⟩)) (by cases g3 <;> rfl) (by rfl) (fun h j w0 _ hS => by rw [op_fa_4 rfl rfl]; exact ⟨rfl, hS⟩) ?_
              simp only [Act.put, List.setIfInBounds_toArray, List.set_cons_zero, List.set_cons_succ]
              refine st_if g3 (.int .i64 (n 4)) (by cases g3 <;> rfl) (by rfl) (fun h j w0 _ hS => by rw [op_load_int rfl (gd_pos h) (n := n 4) (by rw [hS.cell b1 cs (by simp), hcsH.out]; rfl)]; exact ⟨rfl, hS⟩) ?_
              simp only [Act.put, List.setIfInBounds_toArray, List.set_cons_zero, List.set_cons_succ]
              refine st_if g3 (.bool (decide (n 5 < n 4))) (by cases g3 <;> rfl) (by rfl) (fun h j w0 _ hS => by rw [op_lss rfl (gd_pos h) (gd_pos h)]; exact ⟨rfl, hS⟩) ?_
              simp only [Act.put, List.setIfInBounds_toArray, List.set_cons_zero, List.set_cons_succ]
              refine st_val (.bool g4) (by rfl) (by rfl) (fun w => op_pick rfl rfl rfl rfl (by rw [hp4.out]; cases g3 <;> rfl)) ?_
              simp only [Act.put, List.setIfInBounds_toArray, List.set_cons_zero, List.set_cons_succ]
              refine st_val (.bool g4) (by rfl) (by rfl) (fun w => rfl) ?_
              simp only [Act.put, List.setIfInBounds_toArray, List.set_cons_zero, List.set_cons_succ]
              refine st_if g4 (.pointer (some ⟨b1, 6, none⟩)) (by cases g4 <;> rfl) (by rfl) (fun h j w0 _ hS => by rw [op_fa_6 rfl rfl]; exact ⟨rfl, hS⟩) ?_
              simp only [Act.put, List.setIfInBounds_toArray, List.set_cons_zero, List.set_cons_succ]
              refine st_if g4 (.string d) (by cases g4 <;> rfl) (by rfl) (fun h j w0 _ hS => by rw [op_load_str rfl (gd_pos h) (n := d) (by rw [hS.cell b1 cs (by simp), hcsH.out]; rfl)]; exact ⟨rfl, hS⟩) ?_
              simp only [Act.put, List.setIfInBounds_toArray, List.set_cons_zero, List.set_cons_succ]
              refine st_if g4 (.string T) (by cases g4 <;> rfl) (by rfl) (fun h j w0 _ hS => ⟨rfl, hS⟩) ?_
              simp only [Act.put, List.setIfInBounds_toArray, List.set_cons_zero, List.set_cons_succ]
              refine st_if g4 (.string H) (by cases g4 <;> rfl) (by rfl) (fun h j w0 _ hS => by rw [op_call1 rfl rfl (gd_pos h) cf_sum]; exact (hSumH.out (hgxH.out h) w0 hS.below).mono fun e w' h => by obtain ⟨rfl, hB⟩ := h; exact ⟨rfl, hS.next hB⟩) ?_
              simp only [Act.put, List.setIfInBounds_toArray, List.set_cons_zero, List.set_cons_succ]
              refine st_if g4 (.bool (d.toList == H.toList)) (by cases g4 <;> rfl) (by rfl) (fun h j w0 _ hS => by rw [op_eql_str rfl (gd_pos h) (gd_pos h)]; exact ⟨rfl, hS⟩) ?_
              simp only [Act.put, List.setIfInBounds_toArray, List.set_cons_zero, List.set_cons_succ]
              refine st_val (.bool g5) (by rfl) (by rfl) (fun w => op_pick rfl rfl rfl rfl (by rw [hp5.out]; cases g4 <;> rfl)) ?_
              simp only [Act.put, List.setIfInBounds_toArray, List.set_cons_zero, List.set_cons_succ]
              refine st_val (.bool g5) (by rfl) (by rfl) (fun w => rfl) ?_
              simp only [Act.put, List.setIfInBounds_toArray, List.set_cons_zero, List.set_cons_succ]
              refine st_nil ?_
              intro w3 hF3
              have hF3b := hide hF3.below
              clear hF3
              go_wp2
              go_ret
              exact ⟨by rw [hendH.out] <;> rfl, hF3b.out⟩
            · have hV := vote_any (n 0)
              obtain ⟨x, hx⟩ : ∃ x, x = RW.voteK (n 0) := ⟨_, rfl⟩
              rw [← hx] at hV
              have hVH := hide hV
              cases x
              · have hk := hide (show r = _ from hrH.out.trans (RW.msgB_k0 hneH.out k1 k2 k3 hx.symm))
                clear hV hx hrH hvWH hvlH huH hneH hqH hcsH hsH
                go_wp2_with (go_at_call 51; refine (hVH.out _).mono ?_; rintro e w' ⟨rfl, rfl⟩)
                go_ret
                exact ⟨by rw [hk.out] <;> rfl, hFb.out⟩
              · have hk := hide (show r = _ from hrH.out.trans (RW.msgB_k4 hneH.out hx.symm))
                rw [← hqH.out] at hk
                obtain ⟨a, cap, hva⟩ := hvlH.out
                subst hva
                clear hV hx hrH hvWH hvlH huH hneH hqH hcsH hsH
                go_wp2_with (go_at_call 51; refine (hVH.out _).mono ?_; rintro e w' ⟨rfl, rfl⟩)
                all_goals go_ret
                all_goals refine ⟨?_, hFb.out⟩
                all_goals refine congrArg (fun b => Ending.returned (Value.bool b)) ?_
                all_goals rw [hk.out]
                · rename_i hq h5 hl0 hd
                  rw [ByteArray.toList_eq] at hd
                  rw [hq, decide_eq_true h5, hl0, hd]
                  rfl
                · rename_i hq h5 hl0 hd
                  rw [hq, decide_eq_true h5, hl0, ByteArray.toList_eq, RW.len32]
                  rfl
                · rename_i hq h5 hl0
                  rw [decide_eq_false (show ¬ l.length = 0 from fun g => hl0 (List.length_eq_zero_iff.1 g)), Bool.and_false]
                  rfl
                · rename_i hq h5
                  rw [decide_eq_false h5, Bool.and_false]
                  rfl
                · rename_i hq
                  rw [show q = false by simpa using hq]
                  rfl
  · rename_i h1 h2
    go_ret
    exact ⟨by rw [hrH.out, RW.msgB_far (fun g => h2 (hp2H.out ▸ g.2.1))] <;> rfl, hF.below⟩
  · rename_i h1
    go_ret
    exact ⟨by rw [hrH.out, RW.msgB_far (fun g => h1 (hp1H.out ▸ g.1))] <;> rfl, hF.below⟩
end Go.Proofs.YtcbckcojebanaaaDoor

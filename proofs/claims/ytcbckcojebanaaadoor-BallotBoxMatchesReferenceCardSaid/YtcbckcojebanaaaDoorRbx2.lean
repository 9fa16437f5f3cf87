/-
  Package royaltyref25: Most: what it returns; only new memory is written.
-/
import Derived.Test.YtcbckcojebanaaaDoorRbx1
import Derived.Test.YtcbckcojebanaaaDoorMZ3
namespace Go.Proofs.YtcbckcojebanaaaDoor
open Go.RowKit RG
namespace RW
theorem mt_ne (kd h r : Int) (x : Mx) : mt kd h r (mxp x) = !(((x.1 0 != kd) || (x.1 3 != h)) || (x.1 4 != r)) := by
  rw [mt_eq]
  simp only [bne, Bool.not_or, Bool.not_not]
end RW
set_option maxRecDepth 100000 in
set_option maxHeartbeats 8000000 in
theorem rmost_any {W : World} {rb : Nat} {N : Int} {v : Value} {Lx : List RW.Mx} (h : RBx W rb N v Lx) (hl : Lx.length ≤ 10000) (kd hh r : Int) :
    Calls Tryd.prog 34 #[.pointer (some ⟨rb, 0, none⟩), .int .i64 kd, .int .i64 hh, .int .i64 r] W fun e w' => (∃ (best : ByteArray) (most : Nat), e = .returned (.tuple #[.string best, .int .i64 most]) ∧ RW.MostSpec (fun d => RW.rc kd hh r d (Lx.map RW.mxp)) best most) ∧ Below W.heap.size W w' := by
  have hcon := hide (fun W' (hB : Below W.heap.size W W') d => rcount_any (h.next hB) hl kd hh r d)
  obtain ⟨av, cv, rfl⟩ := own_fm h.own
  obtain ⟨nl, hnl⟩ : ∃ n, n = Lx.length := ⟨_, rfl⟩
  have hnlH := hide hnl
  obtain ⟨LL, hLL⟩ : ∃ L, L = Lx.map RW.mxp := ⟨_, rfl⟩
  have hLLH := hide hLL
  rw [← hLL] at hcon ⊢
  have hH := hide (fun W' (hB : Below W.heap.size W W') => h.next hB)
  have hb0 := hide (Below.refl W.heap.size W)
  have hll := hide (show LL.length ≤ 10000 by rw [hLL, List.length_map]; exact hl)
  rw [← hnl] at hl hH
  clear h hnl hLL
  go_enter Tryd.func34, Tryd.ntmps34
  go_wp2
  go_loopw [10, 11, 12] (fun b m i wr => ∃ (j : Nat) (best : ByteArray) (most : Nat), b = .string best ∧ m = .int .i64 most ∧ i = .int .i64 j ∧ j ≤ nl ∧ Hid (RW.MostOf (fun d => RW.rc kd hh r d LL) (RW.digs kd hh r (LL.take j)) best most ∧ Below W.heap.size W wr)) (fun _ _ i _ => nl - (intOf i).toNat)
  case atStart => exact ⟨0, ⟨#[]⟩, 0, rfl, rfl, rfl, Nat.zero_le _, RW.MostOf.nil _, hb0.out⟩
  case round =>
    clear hb0
    obtain ⟨j, best, most, rfl, rfl, rfl, hj, hQ⟩ := hrel
    have hR := hH.out wr hQ.out.2
    have c1 : wr.cell? ⟨rb, 1, none⟩ = some (.slice av nl cv) := (cell_at hR.row 1).trans rfl
    by_cases hlt : j < nl
    · obtain ⟨x, hx⟩ : ∃ x, Lx[j]? = some x := ⟨_, List.getElem?_eq_getElem (by rw [← hnlH.out]; exact hlt)⟩
      obtain ⟨g, c, hv, _, _, hrg⟩ := hR.at hx
      injection hv with p1 p2 p3
      subst p1
      have hci := msg_info x.1 x.2.1 (RW.mxl x)
      have hco := msg_one x.1 x.2.1 (RW.mxl x) rfl
      have hi8 : (Tryd.prog.info? 24).map (·.size) = some (RW.mxe x).length := hci
      have hxl : LL[j]? = some (RW.mxp x) := by rw [hLLH.out, List.getElem?_map, hx]; rfl
      have htk := hide (RW.take_one hxl)
      have hxm := hide (List.mem_of_getElem? hxl)
      have hltH := hide hlt
      clear hR hx p2 p3 hxl
      go_upto_region 7 with (first
        | (refine wpList_load_mid rfl 24 (.tmp 29) rfl g (j * 8) rfl (RW.mxe x) _ hrg Tryd.underlying24 rfl hi8 ?_)
        | (refine wpList_store_new rfl 24 (.tmp 13) (.tmp 30) rfl (RW.mcells x.1 x.2.1 (RW.mxl x)) rfl rfl 24 RW.noM hci rfl hco ?_))
      obtain ⟨b13, hb13⟩ : ∃ b, b = wr.heap.size := ⟨_, rfl⟩
      rw [← hb13]
      refine gen_world (fun W' => Below wr.heap.size wr W' ∧ W'.heap[b13]? = some (.cells (RW.mcells x.1 x.2.1 (RW.mxl x)) 24 (0, 0))) ⟨(Below.refl _ _).alloc (Nat.le_refl _) _, by rw [hb13]; exact heap_alloc_new _ _⟩ ?_
      rintro w3 ⟨hB3, h13⟩
      have k0 : w3.cell? ⟨b13, 0, none⟩ = some (.int .i64 (x.1 0)) := (cell_at h13 0).trans rfl
      have k3 : w3.cell? ⟨b13, 3, none⟩ = some (.int .i64 (x.1 3)) := (cell_at h13 3).trans rfl
      have k4 : w3.cell? ⟨b13, 4, none⟩ = some (.int .i64 (x.1 4)) := (cell_at h13 4).trans rfl
      have k6 : w3.cell? ⟨b13, 6, none⟩ = some (.string x.2.1) := (cell_at h13 6).trans rfl
      have hB3H := hide (hQ.out.2.trans (hB3.mono hQ.out.2.size))
      have hMo := hide hQ.out.1
      have h13H := hide h13
      clear hB3 h13 hb13 hQ hci hco hi8 hrg c1
      obtain ⟨q0, hq0⟩ : ∃ q, q = (x.1 0 != kd) := ⟨_, rfl⟩
      obtain ⟨q1, hq1⟩ : ∃ q, q = (x.1 3 != hh) := ⟨_, rfl⟩
      obtain ⟨q2, hq2⟩ : ∃ q, q = (x.1 4 != r) := ⟨_, rfl⟩
      have hmt := hide (show RW.mt kd hh r (RW.mxp x) = !((q0 || q1) || q2) by rw [RW.mt_ne, hq0, hq1, hq2])
      have e0 := hq0.symm
      have e1 := hq1.symm
      have e2 := hq2.symm
      clear hq0 hq1 hq2
      obtain ⟨c, hcc⟩ : ∃ c, c = ((q0 || q1) || q2) := ⟨_, rfl⟩
      have hccH := hide hcc
      clear hcc
      simp only [Act.put]
      go_cut [46] (fun s wx => s = .bool c ∧ wx = w3)
      case first =>
        cases q0
        · cases q1
          · cases q2
            · go_wp2
              all_goals go_meet
              all_goals exact ⟨by rw [hccH.out] <;> rfl, rfl⟩
            · go_wp2
              all_goals go_meet
              all_goals exact ⟨by rw [hccH.out] <;> rfl, rfl⟩
          · go_wp2
            all_goals go_meet
            all_goals exact ⟨by rw [hccH.out] <;> rfl, rfl⟩
        · go_wp2
          all_goals go_meet
          all_goals exact ⟨by rw [hccH.out] <;> rfl, rfl⟩
      case rest =>
      obtain ⟨rfl, hwx⟩ := hcut
      have hwx' := hwx.symm
      subst hwx'
      rw [← hccH.out] at hmt
      clear e0 e1 e2 k0 k3 k4 hccH
      cases c
      · have hdg := hide (RW.digs_snoc_yes (L := LL.take j) hmt.out)
        have hpos := hide (show 0 < RW.rc kd hh r x.2.1 LL from RW.rc_pos.2 ⟨RW.mxp x, hxm.out, hmt.out, rfl⟩)
        obtain ⟨cn, hcn⟩ : ∃ c, c = RW.rc kd hh r x.2.1 LL := ⟨_, rfl⟩
        have hcnH := hide hcn
        have hcl : cn ≤ 10000 := by rw [hcn]; exact Nat.le_trans (RW.rc_le _ _ _ _ _) hll.out
        have hc3 := hide (hcon.out w3 hB3H.out x.2.1)
        rw [← hcn] at hc3
        clear hcn
        go_upto_region 9 with (go_at_call 36; refine hc3.out.mono ?_; rintro e w4 ⟨rfl, hB4⟩; have hB4H := hide (hB3H.out.trans (hB4.mono hB3H.out.size)); have k6' : w4.cell? ⟨b13, 6, none⟩ = some (.string x.2.1) := (cell_at ((hB4.block _ (Array.getElem?_eq_some_iff.1 h13H.out).1).trans h13H.out) 6).trans rfl; clear hB4 k6)
        obtain ⟨q, hq⟩ : ∃ q, q = Op.bytesLess x.2.1.toList best.toList := ⟨_, rfl⟩
        have eq := hq.symm
        have hqH := hide hq
        clear hq hc3 h13H
        obtain ⟨c, hcc⟩ : ∃ c, c = (decide (most < cn) || (decide (cn = most) && q)) := ⟨_, rfl⟩
        have hccH := hide hcc
        clear hcc
        go_cut [67] (fun s wx => s = .bool c ∧ wx = w4)
        case first =>
          by_cases h1 : most < cn
          · have h1i : (most : Int) < (cn : Int) := by omega
            go_wp2
            all_goals go_meet
            all_goals exact ⟨by rw [hccH.out, decide_eq_true h1] <;> rfl, rfl⟩
          · have h1i : ¬ (most : Int) < (cn : Int) := by omega
            by_cases h2 : cn = most
            · have h2i : ((cn : Int) == (most : Int)) = true := by rw [h2]; simp
              have h2H := hide h2
              clear h2
              cases q
              · go_wp2
                all_goals go_meet
                all_goals exact ⟨by rw [hccH.out, decide_eq_false h1, decide_eq_true h2H.out] <;> rfl, rfl⟩
              · go_wp2
                all_goals go_meet
                all_goals exact ⟨by rw [hccH.out, decide_eq_false h1, decide_eq_true h2H.out] <;> rfl, rfl⟩
            · have h2i : ((cn : Int) == (most : Int)) = false := by rw [beq_eq_false_iff_ne]; omega
              go_wp2
              all_goals go_meet
              all_goals exact ⟨by rw [hccH.out, decide_eq_false h1, decide_eq_false h2] <;> rfl, rfl⟩
        case rest =>
        obtain ⟨rfl, hwx⟩ := hcut
        have hwx' := hwx.symm
        subst hwx'
        clear eq
        cases c
        · have hnx := hide (show RW.MostOf (fun d => RW.rc kd hh r d LL) (RW.digs kd hh r (LL.take (j + 1))) best most from by
            rw [htk.out, hdg.out]
            have hc := hccH.out.symm
            rw [Bool.or_eq_false_iff] at hc
            refine hMo.out.leave _ hpos.out ?_ ?_
            · rw [show (RW.mxp x).2 = x.2.1 from rfl, ← hcnH.out]; exact of_decide_eq_false hc.1
            · intro he
              have he : RW.rc kd hh r x.2.1 LL = most := he
              rw [← hcnH.out] at he
              have h3 := hc.2
              rw [decide_eq_true he, Bool.true_and, hqH.out] at h3
              exact h3)
          clear hccH
          go_wp2
          go_roundw
          case rel => exact ⟨j + 1, best, most, rfl, rfl, by go_num, hltH.out, hnx.out, hB4H.out⟩
          case measure => have := hltH.out; simp [intOf]; omega
        · have hnx := hide (show RW.MostOf (fun d => RW.rc kd hh r d LL) (RW.digs kd hh r (LL.take (j + 1))) x.2.1 cn from by
            rw [htk.out, hdg.out, hcnH.out]
            refine hMo.out.take x.2.1 hpos.out ?_
            have hc := hccH.out.symm
            rw [Bool.or_eq_true, Bool.and_eq_true] at hc
            rcases hc with hc | ⟨h1, h2⟩
            · left; show most < RW.rc kd hh r x.2.1 LL; rw [← hcnH.out]; exact of_decide_eq_true hc
            · right; exact ⟨by show RW.rc kd hh r x.2.1 LL = most; rw [← hcnH.out]; exact of_decide_eq_true h1, by rw [← hqH.out]; exact h2⟩)
          clear hccH
          go_wp2
          go_roundw
          case rel => exact ⟨j + 1, x.2.1, cn, rfl, rfl, by go_num, hltH.out, hnx.out, hB4H.out⟩
          case measure => have := hltH.out; simp [intOf]; omega
      · have hdg := hide (RW.digs_snoc_no (L := LL.take j) hmt.out)
        have hnx := hide (show RW.MostOf (fun d => RW.rc kd hh r d LL) (RW.digs kd hh r (LL.take (j + 1))) best most from by rw [htk.out, hdg.out]; exact hMo.out)
        go_wp2
        go_roundw
        case rel => exact ⟨j + 1, best, most, rfl, rfl, by go_num, hltH.out, hnx.out, hB3H.out⟩
        case measure => have := hltH.out; simp [intOf]; omega
    · obtain rfl : nl = j := by omega
      have hfull : LL.take nl = LL := List.take_of_length_le (by rw [hLLH.out, List.length_map, ← hnlH.out]; exact Nat.le_refl _)
      have hsp := hide (hQ.out.1.spec fun d hd => by rw [hfull]; exact RW.digs_all hd)
      have hend := hide hQ.out.2
      clear hfull hR hQ hlt
      go_wp2
      go_ret2
      exact ⟨⟨best, most, rfl, hsp.out⟩, hend.out⟩
end Go.Proofs.YtcbckcojebanaaaDoor

/-
  Package royaltylaw25: BallotOrder: it returns true; only new memory is written.
-/
import Derived.Test.YtcbckcojebanaaaDoorBoH
import Derived.Test.YtcbckcojebanaaaDoorBMsg
namespace Go.Proofs.YtcbckcojebanaaaDoor
open Go.RowKit RG
theorem rowV_mid {W : World} {b o n c i : Nat} {l : List RW.Mv} {x : RW.Mv} (h : RowV 8 RW.mve W (.slice (some ⟨b, o, none⟩) n c) l) (hx : l[i]? = some x) : W.rangeAt b (o + i * 8) (RW.mve x) := by
  obtain ⟨a, cap, e, _, h1⟩ := h
  injection e with e1 e2 e3
  obtain ⟨b', o', hb, _, hr⟩ := h1.resolve_left (by rintro rfl; simp at hx)
  rw [← e1] at hb
  injection hb with hb
  injection hb with p1 p2 p3
  subst p1 p2
  exact hr i x hx
theorem x_of_calls {D : World → Prop} {r : Result Next} {v : Value} {k : Nat} {args : Array Value} {w : World} (hr : r = .ok (.enter k args) w) (h : Calls Tryd.prog k args w fun e w' => e = .returned v ∧ D w') : CUp Tryd.prog D v r := by
  rw [hr]
  exact h
section
variable {ev : Operand → Value} {o : Oper} {x y x1 x2 x3 x4 x5 : Operand} {w : World}
theorem op_neq_strF {m : ByteArray} (ho : o.op = .binOp .neq 9 x y 9) (hx : ev x = .string m) (hy : ev y = .string m) : (execOp ev o).run Tryd.prog w = .ok (.value (.bool false)) w := by
  rw [op_neq_str ho hx hy]
  simp
theorem op_neq_intF {m : Int} (ho : o.op = .binOp .neq 3 x y 3) (hx : ev x = .int .i64 m) (hy : ev y = .int .i64 m) : (execOp ev o).run Tryd.prog w = .ok (.value (.bool false)) w := by
  rw [op_neq_int ho hx hy]
  simp
theorem op_run3 {k : Nat} {ts : Array TypeId} {a b c : Value} (ho : o.op = .call ⟨.value (.func k), #[x1, x2, x3], ts⟩) (hf : ev (.func k) = .func (.func k) #[] #[]) (h1 : ev x1 = a) (h2 : ev x2 = b) (h3 : ev x3 = c) (hk : ∀ args w, (callFunc k args).run Tryd.prog w = .ok (.enter k args) w) :
    (execOp ev o).run Tryd.prog w = .ok (.enter k #[a, b, c]) w := by
  unfold execOp
  rw [ho]
  go_simp
theorem op_run5 {k : Nat} {ts : Array TypeId} {a b c d e : Value} (ho : o.op = .call ⟨.value (.func k), #[x1, x2, x3, x4, x5], ts⟩) (hf : ev (.func k) = .func (.func k) #[] #[]) (h1 : ev x1 = a) (h2 : ev x2 = b) (h3 : ev x3 = c) (h4 : ev x4 = d) (h5 : ev x5 = e) (hk : ∀ args w, (callFunc k args).run Tryd.prog w = .ok (.enter k args) w) :
    (execOp ev o).run Tryd.prog w = .ok (.enter k #[a, b, c, d, e]) w := by
  unfold execOp
  rw [ho]
  go_simp
end
set_option maxRecDepth 100000 in
set_option maxHeartbeats 40000000 in
theorem ballotorder_any (K : Nat → Int) (ks : Array Value) (hks : RW.WsOk ks K) (n : Int) (v : Value) (m : Nat) (X : Nat → Nat → Int) (vo : Value) (O : List Int) (hn : -9223372036854775808 ≤ n) (hn2 : n ≤ 9223372036854775807) (hX : ∀ i, i < m → ∀ j, j < 5 → -9223372036854775808 ≤ X i j ∧ X i j ≤ 9223372036854775807)
    (hm : m ≤ 9223372036854775807) (hO : ∀ x ∈ O, RW.i64b x) (hOl : O.length ≤ 9223372036854775807) (w : World) (hv : FivesV w v m X) (hvo : RowV 1 encI w vo O) (hK : KLaid w ks) :
    Calls Tryd.prog 9 #[.int .i64 n, v, vo] w fun e w' => e = .returned (.bool true) ∧ Below w.heap.size w w' := by
  have hS := hide (bsane_any K ks hks w hK)
  have hP := hide (fun W => pick_any n 7 hn hn2 (by decide) (by decide) W)
  obtain ⟨hp0, hp7⟩ := RW.pickI_bd n 7 (by decide)
  obtain ⟨p, hp⟩ : ∃ p, p = RW.pickI n 7 := ⟨_, rfl⟩
  rw [← hp] at hp0 hp7
  obtain ⟨a, cap, rfl, hva⟩ := hv
  obtain ⟨ao, co, rfl, _, hao⟩ := hvo
  obtain ⟨no, hno⟩ : ∃ n, n = O.length := ⟨_, rfl⟩
  have hnoH := hide hno
  rw [← hno] at hOl ⊢
  obtain ⟨B, hB⟩ : ∃ B, B = w.heap.size := ⟨_, rfl⟩
  have hBH := hide hB
  have hsz := hide (fun W (h : Below B w W) => (show B ≤ W.heap.size by rw [hB]; exact hB ▸ h.size))
  have hpH := hide hp
  have hvaH := hide hva
  have haoH := hide hao
  have hOH := hide hO
  have hXH := hide hX
  have hKH := hide (fun W (h : Below B w W) => (show KLaid W ks from bklaid hK (hB ▸ h)))
  have hksH := hide hks
  clear hp hva hX hK hks hno hao hO hB
  go_enter Tryd.func9, Tryd.ntmps9
  go_upto_region 2 with (go_at_call 10; refine hS.out.mono ?_; rintro e w1 ⟨rfl, hB1⟩; have hB1H := hide (show Below B w w1 from hBH.out ▸ hB1); clear hB1)
  go_upto_region 3 with (go_at_call 22; refine (hP.out _).mono ?_; rintro e w' ⟨rfl, rfl⟩; rw [← hpH.out])
  obtain ⟨N, hN⟩ : ∃ k : Nat, (k : Int) = 1 + p := ⟨(1 + p).toNat, by omega⟩
  rw [← hN]
  have hN1 : 1 ≤ N := by omega
  have hN7 : N ≤ 7 := by omega
  clear hN hp0 hp7 hpH hP hS
  go_wp2
  go_loopw [9, 10] (fun u i wr => ∃ j : Nat, i = .int .i64 j ∧ j ≤ 40 ∧ Hid (j ≤ m ∧ MsgO wr B u (RW.votesL X j) ∧ Below B w wr)) (fun _ i _ => 40 - (intOf i).toNat)
  case atStart => exact ⟨0, rfl, Nat.zero_le _, Nat.zero_le _, MsgO.nil _ _, hB1H.out⟩
  case round =>
    clear hB1H
    obtain ⟨j, rfl, hj40, hQ⟩ := hrel
    obtain ⟨wo, hwo⟩ : ∃ wo, wo = wr := ⟨_, rfl⟩
    subst hwo
    obtain ⟨hjm, hM0, hB0⟩ := hQ.out
    obtain ⟨ae, ce, rfl⟩ := hM0.form
    have hM := hide hM0
    have hBw := hide hB0
    rw [RW.votesL_len] at hM
    rw [RW.votesL_len]
    clear hQ hM0 hB0
    obtain ⟨c, hcc⟩ : ∃ c, c = decide (j < m ∧ j < 40) := ⟨_, rfl⟩
    have hccH := hide hcc
    clear hcc
    go_upto_region 5 with fail
    go_cut [38] (fun s wx => s = .bool c ∧ wx = wo)
    case first =>
      by_cases h1 : j < m
      · by_cases h2 : j < 40
        · have h2i : (j : Int) < 40 := by omega
          go_wp2
          all_goals go_meet
          all_goals exact ⟨by rw [hccH.out, decide_eq_true (show j < m ∧ j < 40 by omega)] <;> rfl, rfl⟩
        · have h2i : ¬ (j : Int) < 40 := by omega
          go_wp2
          all_goals go_meet
          all_goals exact ⟨by rw [hccH.out, decide_eq_false (show ¬ (j < m ∧ j < 40) by omega)] <;> rfl, rfl⟩
      · go_wp2
        all_goals go_meet
        all_goals exact ⟨by rw [hccH.out, decide_eq_false (show ¬ (j < m ∧ j < 40) by omega)] <;> rfl, rfl⟩
    case rest =>
    obtain ⟨rfl, hwx⟩ := hcut
    have hwx' := hwx.symm
    subst hwx'
    cases c
    · clear hccH
      obtain ⟨E, hE⟩ : ∃ E, E = RW.votesL X j := ⟨_, rfl⟩
      have hEl := hide (show E.length = j by rw [hE, RW.votesL_len])
      rw [← hE] at hM
      have gr := hide hM.out.row
      obtain ⟨B3, hB3⟩ : ∃ b, b = wo.heap.size := ⟨_, rfl⟩
      have hA0 := alloc_bel (Below.refl wo.heap.size wo) (Nat.le_refl _) (.cells #[] 24)
      have hz0 : MsgO (wo.alloc (.cells #[] 24)) B3 (.slice (some ⟨wo.heap.size, 0, none⟩) 0 0) [] := ⟨rfl, .inr ⟨wo.heap.size, 0, #[], rfl, by rw [hB3]; exact Nat.le_refl _, alloc_at1 _ _, Nat.le_refl _, by unfold maxLen; omega, rfl, rfl⟩⟩
      obtain ⟨vm, w4, hrun, ho4, hb4, _⟩ := hz0.appRow (gr.out.next hA0) (by simp) (by rw [hEl.out]; omega) (by rw [hB3]; exact hA0.size)
      rw [List.nil_append] at ho4
      have hm4 := hide ho4
      have hb4H := hide (show Below B3 wo w4 from (hB3 ▸ hA0).trans hb4)
      have hn1 := hide (fun W (h : Below B3 wo W) => gr.out.next (hB3 ▸ h))
      have hn3 := hide (fun W (h : Below B3 wo W) => (show B3 ≤ W.heap.size by rw [hB3]; exact (hB3 ▸ h).size))
      have hn4 := hide (fun W (h : Below B3 wo W) => (show Below B w W from hBw.out.trans (h.mono (by rw [hB3]; exact hsz.out _ hBw.out))))
      clear hA0 hz0 ho4 hb4 gr hM hBw hE hB3 hvaH hXH hjm
      go_wp2_with (at_builtin; refine wpList_app_run rfl (.tmp 49) (.tmp 50) rfl rfl rfl hrun ?_)
      clear hrun
      obtain ⟨am, cm, hvm⟩ := hm4.out.form
      subst hvm
      rw [hEl.out] at hm4
      rw [hEl.out]
      go_loopw [12] (fun i wr => ∃ (q : Nat) (M : List RW.Mv), i = .int .i64 q ∧ q ≤ 60 ∧ Hid (MsgO wr B3 (.slice am j cm) M ∧ RW.SameV K N E M ∧ Below B3 wo wr)) (fun i _ => 60 - (intOf i).toNat)
      case atStart => exact ⟨0, E, rfl, Nat.zero_le _, hm4.out, ⟨rfl, fun _ => rfl⟩, hb4H.out⟩
      case round =>
        clear hm4 hb4H
        obtain ⟨q, M, rfl, hq60, hQ⟩ := hrel
        obtain ⟨wq, hwq⟩ : ∃ wo, wo = wr := ⟨_, rfl⟩
        subst hwq
        obtain ⟨hM0, hsm0, hB0⟩ := hQ.out
        have hM := hide hM0
        have hsm := hide hsm0
        have hMl := hide (show M.length = j by rw [← hsm0.1, hEl.out])
        have hBw := hide hB0
        clear hQ hM0 hsm0 hB0
        obtain ⟨c, hcc⟩ : ∃ c, c = decide (q < no ∧ q < 60 ∧ 1 < j) := ⟨_, rfl⟩
        have hccH := hide hcc
        clear hcc
        go_upto_region 10 with fail
        go_cut [64] (fun s wx => s = .bool c ∧ wx = wq)
        case first =>
          by_cases h1 : q < no
          · by_cases h2 : q < 60
            · have h2i : (q : Int) < 60 := by omega
              by_cases h3 : 1 < j
              · have h3i : (1 : Int) < j := by omega
                go_wp2
                all_goals go_meet
                all_goals exact ⟨by rw [hccH.out, decide_eq_true (show q < no ∧ q < 60 ∧ 1 < j from ⟨h1, h2, h3⟩)] <;> rfl, rfl⟩
              · have h3i : ¬ (1 : Int) < j := by omega
                go_wp2
                all_goals go_meet
                all_goals exact ⟨by rw [hccH.out, decide_eq_false (show ¬ (q < no ∧ q < 60 ∧ 1 < j) from fun h => h3 h.2.2)] <;> rfl, rfl⟩
            · have h2i : ¬ (q : Int) < 60 := by omega
              go_wp2
              all_goals go_meet
              all_goals exact ⟨by rw [hccH.out, decide_eq_false (show ¬ (q < no ∧ q < 60 ∧ 1 < j) from fun h => h2 h.2.1)] <;> rfl, rfl⟩
          · go_wp2
            all_goals go_meet
            all_goals exact ⟨by rw [hccH.out, decide_eq_false (show ¬ (q < no ∧ q < 60 ∧ 1 < j) from fun h => h1 h.1)] <;> rfl, rfl⟩
        case rest =>
        obtain ⟨rfl, hwx⟩ := hcut
        have hwx' := hwx.symm
        subst hwx'
        cases c
        · clear hccH
          obtain ⟨B4, hB4⟩ : ∃ b, b = wq.heap.size := ⟨_, rfl⟩
          have h34 : B3 ≤ B4 := by rw [hB4]; exact hn3.out _ hBw.out
          have hB4s := hide (show B4 ≤ wq.heap.size by rw [hB4]; exact Nat.le_refl _)
          have hE5 := hide (fun W (h : Below B4 wq W) => hn1.out W (hBw.out.trans (h.mono h34)))
          have hM5 := hide (fun W (h : Below B4 wq W) => (hM.out.next (hB4 ▸ h)).row)
          have hw5 := hide (fun W (h : Below B4 wq W) => hn4.out W (hBw.out.trans (h.mono h34)))
          have hMl' := hMl.out
          have hK5 := hide (fun W (h : Below B4 wq W) => hKH.out W (hn4.out W (hBw.out.trans (h.mono h34))))
          clear hn1 hn3 hn4 hKH hBw hM h34
          go_upto_region 16 with (go_at_call 28; refine (newbox_yes (N : Int) (by omega) _).mono ?_; rintro e w2 ⟨rfl, hb2, hB2⟩; have hb2H := hide hb2; have hB2H := hide hB2; clear hb2 hB2)
          obtain ⟨bx, hbx⟩ : ∃ b, b = wq.heap.size + 1 := ⟨_, rfl⟩
          obtain ⟨mb, hmb⟩ : ∃ b, b = wq.heap.size := ⟨_, rfl⟩
          have hb2 := hb2H.out
          have hB2 := hB2H.out
          rw [← hbx, ← hmb] at hb2
          rw [← hbx]
          have hbxH := hide hbx
          have hmbH := hide hmb
          have hb2I := hide hb2
          have hB2I := hide hB2
          clear hb2H hB2H hbx hmb hb2 hB2
          go_upto_region 17 with (go_at_call 28; refine (newbox_yes (N : Int) (by omega) _).mono ?_; rintro e w3 ⟨rfl, hb3, hB3'⟩; have hb3H := hide hb3; have hB3H := hide hB3'; clear hb3 hB3')
          obtain ⟨cx, hcx⟩ : ∃ b, b = w2.heap.size + 1 := ⟨_, rfl⟩
          obtain ⟨dm, hdm⟩ : ∃ b, b = w2.heap.size := ⟨_, rfl⟩
          have hb3 := hb3H.out
          have hB3' := hB3H.out
          rw [← hcx, ← hdm] at hb3
          rw [← hcx]
          have hT : Hid (TwoB wq B4 bx mb cx dm N [] [] w3) := hide ⟨((hB4 ▸ hB2I.out : Below B4 wq w2)).trans (hB3'.mono (by rw [hB4]; exact hB2I.out.size)), hb2I.out.next hB3', hb3⟩
          have hd := hide (show cx ≠ mb ∧ dm ≠ mb ∧ bx ≠ dm ∧ mb ≠ dm ∧ B4 ≤ mb ∧ B4 ≤ dm by
            have h1 := hb2I.out.lt
            have h2 := hB2I.out.size
            have h3 := hmbH.out
            omega)
          clear hb3H hB3H hcx hdm hb3 hB3' hbxH hmbH hb2I hB2I hB4
          go_wp2
          go_loopw [16] (fun i wr => ∃ q : Nat, i = .int .i64 q ∧ q ≤ j ∧ Hid (TwoB wq B4 bx mb cx dm N (RW.boxV K N (E.take q)) (RW.boxV K N (M.take q)) wr)) (fun i _ => j - (intOf i).toNat)
          case atStart => exact ⟨0, rfl, Nat.zero_le _, hT⟩
          case round =>
            clear hT
            obtain ⟨q, rfl, hqj, hQ⟩ := hrel
            obtain ⟨wz, hwz⟩ : ∃ wo, wo = wr := ⟨_, rfl⟩
            subst hwz
            obtain ⟨c, hcc⟩ : ∃ c, c = decide (q < j) := ⟨_, rfl⟩
            have hccH := hide hcc
            clear hcc
            go_upto_region 20 with fail
            go_cut [116] (fun s wx => s = .bool c ∧ wx = wz)
            case first =>
              by_cases h1 : q < j
              · go_wp2
                all_goals go_meet
                all_goals exact ⟨by rw [hccH.out, decide_eq_true h1] <;> rfl, rfl⟩
              · go_wp2
                all_goals go_meet
                all_goals exact ⟨by rw [hccH.out, decide_eq_false h1] <;> rfl, rfl⟩
            case rest =>
            obtain ⟨rfl, hwx⟩ := hcut
            have hwx' := hwx.symm
            subst hwx'
            rcases c with _ | _
            rotate_left
            · have hq : q < j := of_decide_eq_true hccH.out.symm
              clear hccH
              obtain ⟨⟨xf, xd⟩, hxa⟩ : ∃ x, E[q]? = some x := ⟨_, List.getElem?_eq_getElem (by rw [hEl.out]; exact hq)⟩
              obtain ⟨a1, c1', hae, _, har⟩ := hE5.out wz hQ.out.below
              injection hae with q1 q2 q3
              subst q1
              obtain ⟨be, oe, rfl, hbe, hce⟩ := har.resolve_left (by rintro rfl; simp at hxa)
              have hre : wz.rangeAt be (oe + q * 8) (RW.mve (xf, xd)) := hce q _ hxa
              have hi8 : (Tryd.prog.info? 24).map (·.size) = some (RW.mve (xf, xd)).length := by kernel_rfl
              have hi8m := msg_info xf xd (.slice none 0 0)
              have ho8 := msg_one xf xd (.slice none 0 0) rfl
              obtain ⟨bv, hbv⟩ : ∃ b, b = wz.heap.size := ⟨_, rfl⟩
              have hV0 := VB.new hQ.out hB4s.out (RW.mcells xf xd (.slice none 0 0))
              rw [← hbv] at hV0
              have hV0H := hide hV0
              have hbvH := hide hbv
              have hxaH := hide hxa
              have hbvm := hide (show bv ≠ mb by have h1 := hQ.out.b.lt.2; omega)
              clear hce har hbe hV0 hbv hxa q2 q3
              obtain ⟨⟨yf, yd⟩, hya⟩ : ∃ x, M[q]? = some x := ⟨_, List.getElem?_eq_getElem (by rw [hMl.out]; exact hq)⟩
              have hyaH := hide hya
              obtain ⟨a2, c2', hae2, _, har2⟩ := hM5.out wz hQ.out.below
              rw [hMl.out] at hae2
              injection hae2 with p1 p2 p3
              subst p1
              obtain ⟨bm, om, rfl, _, _⟩ := har2.resolve_left (by rintro rfl; simp at hya)
              have hrM := hide (fun W (h : Below B4 wq W) => rowV_mid (hM5.out W h) hya)
              obtain ⟨Lb, hLb⟩ : ∃ L, L = RW.boxV K N (E.take q) := ⟨_, rfl⟩
              obtain ⟨Lc, hLc⟩ : ∃ L, L = RW.boxV K N (M.take q) := ⟨_, rfl⟩
              have hLbH := hide hLb
              have hLcH := hide hLc
              rw [← hLb, ← hLc] at hV0H hQ
              clear hya har2 p2 p3 hLb hLc
              go_upto_region 23 with (first
                | (refine wpList_load_mid rfl 24 (.tmp 121) rfl be (oe + q * 8) rfl (RW.mve (xf, xd)) _ hre Tryd.underlying24 rfl hi8 ?_)
                | (refine wpList_store_new rfl 24 (.tmp 17) (.tmp 122) rfl (RW.mcells xf xd (.slice none 0 0)) rfl rfl 24 _ hi8m rfl ho8 ?_))
              rw [← hbvH.out]
              refine gen_world (VB wq B4 bx mb cx dm N Lb Lc bv (RW.mcells xf xd (.slice none 0 0))) hV0H.out ?_
              clear hre hi8 hV0H hbvH hQ
              intro W1 hV1
              have c0 : W1.cell? ⟨bv, 0, none⟩ = some (.int .i64 (xf 0)) := hV1.cell 0
              have c3 : W1.cell? ⟨bv, 3, none⟩ = some (.int .i64 (xf 3)) := hV1.cell 3
              have c4 : W1.cell? ⟨bv, 4, none⟩ = some (.int .i64 (xf 4)) := hV1.cell 4
              have c6 : W1.cell? ⟨bv, 6, none⟩ = some (.string xd) := hV1.cell 6
              have hV1H := hide hV1
              obtain ⟨n1, hn1⟩ : ∃ n, n = RW.cnt Lb (xf 0) (xf 3) (xf 4) xd N := ⟨_, rfl⟩
              have hn17 : n1 ≤ 7 := by rw [hn1]; exact Nat.le_trans (RW.cnt_le _ _ _ _ _ _) hN7
              have hct := count_box hV1.t.b hN7 (xf 0) (xf 3) (xf 4) xd
              rw [← hn1] at hct
              have hctH := hide hct
              have hn1H := hide hn1
              clear hV1 hct hn1
              go_upto_region 24 with (go_at_call 35; refine hctH.out.mono ?_; rintro e w5 ⟨rfl, hB5⟩; have hV2 := hide (hV1H.out.next hB5 hB4s.out); clear hB5)
              refine gen_world (VB wq B4 bx mb cx dm N Lb Lc bv (RW.mcells xf xd (.slice none 0 0))) hV2.out ?_
              clear hV2 hctH hV1H c0 c3 c4 c6
              intro W2 hV2
              have hr := hV2.v
              have had := add_box hksH.out (hK5.out _ hV2.t.below) hV2.t.b (xf, xd)
              obtain ⟨p, hp⟩ : ∃ p, p = RW.addOk (RW.okV K N (xf, xd)) (RW.vk xf) Lb := ⟨_, rfl⟩
              obtain ⟨L2, hL2⟩ : ∃ L, L = RW.addV K N Lb (xf, xd) := ⟨_, rfl⟩
              have hpn : Hid (((if p then 1 else 0 : Nat) + n1) = RW.cnt L2 (xf 0) (xf 3) (xf 4) xd N) := hide (by
                rw [hL2, hp, hn1H.out]
                cases hh : RW.addOk (RW.okV K N (xf, xd)) (RW.vk xf) Lb with
                | true => rw [RW.cnt_taken (x := (xf, xd)) hh, if_pos rfl, Nat.add_comm]
                | false => rw [RW.add_left (x := (xf, xd)) hh]; simp)
              rw [← hp, ← hL2] at had
              have hadH := hide had
              have hV2H := hide hV2
              have hL2H := hide hL2
              clear had hV2 hp hL2
              go_upto_region 25 with (first
                | (refine wpList_load_row rfl 24 (.tmp 17) rfl bv rfl 24 (RW.mcells xf xd (.slice none 0 0)) (0, 0) _ hr Tryd.underlying24 rfl hi8m ?_)
                | (go_at_call 31; refine hadH.out.mono ?_; rintro e w6 ⟨rfl, hb6, hk6⟩; have hV3 := hide (hV2H.out.addb hb6 hk6 hd.out.2.2.2.2.1 hB4s.out hd.out.1 hd.out.2.1 (hbvm.out)); clear hb6 hk6))
              refine gen_world (VB wq B4 bx mb cx dm N L2 Lc bv (RW.mcells xf xd (.slice none 0 0))) hV3.out ?_
              clear hV3 hadH hV2H hr
              intro W3 hV1
              have c0 : W3.cell? ⟨bv, 0, none⟩ = some (.int .i64 (xf 0)) := hV1.cell 0
              have c3 : W3.cell? ⟨bv, 3, none⟩ = some (.int .i64 (xf 3)) := hV1.cell 3
              have c4 : W3.cell? ⟨bv, 4, none⟩ = some (.int .i64 (xf 4)) := hV1.cell 4
              have c6 : W3.cell? ⟨bv, 6, none⟩ = some (.string xd) := hV1.cell 6
              have hV3H := hide hV1
              have hct := count_box hV1.t.b hN7 (xf 0) (xf 3) (xf 4) xd
              rw [← hpn.out] at hct
              have hctH := hide hct
              clear hV1 hct hpn
              go_upto_region 26 with (go_at_call 35; refine hctH.out.mono ?_; rintro e w7 ⟨rfl, hB7⟩; have hV4 := hide (hV3H.out.next hB7 hB4s.out); clear hB7)
              refine gen_world (VB wq B4 bx mb cx dm N L2 Lc bv (RW.mcells xf xd (.slice none 0 0))) hV4.out ?_
              clear hV4 hctH hV3H c0 c3 c4 c6 hn1H
              intro W4 hV4
              have hry := hrM.out W4 hV4.t.below
              have had := add_box hksH.out (hK5.out _ hV4.t.below) hV4.t.c (yf, yd)
              have hi8y : (Tryd.prog.info? 24).map (·.size) = some (RW.mve (yf, yd)).length := by kernel_rfl
              have hadH := hide had
              have hT4H := hide hV4.t
              have hend := hide (fun W (h : TwoB wq B4 bx mb cx dm N L2 (RW.addV K N Lc (yf, yd)) W) => (show TwoB wq B4 bx mb cx dm N (RW.boxV K N (E.take (q + 1))) (RW.boxV K N (M.take (q + 1))) W by
                rw [RW.take_at1 hxaH.out, RW.take_at1 hyaH.out, RW.boxV_snoc, RW.boxV_snoc, ← hLbH.out, ← hLcH.out, ← hL2H.out]
                exact h))
              clear hV4 had
              have hpp : p = true ∨ p = false := by cases p <;> simp
              rcases hpp with rfl | rfl
              all_goals
                simp only [if_true, if_false, Bool.false_eq_true, Nat.zero_add]
                go_upto_region 28 with fail
                go_wp2_with (first
                  | (refine wpList_load_mid rfl 24 (.tmp 165) rfl bm (om + q * 8) rfl (RW.mve (yf, yd)) _ hry Tryd.underlying24 rfl hi8y ?_)
                  | (go_at_call 31; refine hadH.out.mono ?_; rintro e w8 ⟨rfl, hb8, hk8⟩; have hT5 := hide (hend.out _ (hT4H.out.addc hb8 hk8 hd.out.2.2.2.2.2 hB4s.out hd.out.2.2.1 hd.out.2.2.2.1)); clear hb8 hk8))
                go_roundw
                case rel => exact ⟨q + 1, by go_num, by omega, hT5⟩
                case measure => simp [intOf]; omega
            · have hq : ¬ q < j := of_decide_eq_false hccH.out.symm
              clear hccH
              have hqj2 : (j : Int) ≤ q := by omega
              have hqe : q = j := by omega
              obtain ⟨LE, hLE⟩ : ∃ L, L = RW.boxV K N E := ⟨_, rfl⟩
              obtain ⟨LM, hLM⟩ : ∃ L, L = RW.boxV K N M := ⟨_, rfl⟩
              have hT := hQ.out
              rw [List.take_of_length_le (by rw [hEl.out]; omega), List.take_of_length_le (by rw [hMl.out]; omega), ← hLE, ← hLM] at hT
              have hvs := hide (show ∀ k, RW.voteAt LE k = RW.voteAt LM k by intro k; rw [hLE, hLM, RW.boxV_vote, RW.boxV_vote]; exact hsm.out.2 k)
              have hTH := hide hT
              clear hT hQ hqe hLE hLM hq hqj
              go_wp2
              go_loopw [21] (fun i wr => ∃ q : Nat, i = .int .i64 q ∧ q ≤ j ∧ Hid (TwoB wq B4 bx mb cx dm N LE LM wr)) (fun i _ => j - (intOf i).toNat)
              case atStart => exact ⟨0, rfl, Nat.zero_le _, hTH⟩
              case round =>
                clear hTH
                obtain ⟨q, rfl, hqj, hQ⟩ := hrel
                obtain ⟨wz, hwz⟩ : ∃ wo, wo = wr := ⟨_, rfl⟩
                subst hwz
                by_cases hq : q < j
                · obtain ⟨⟨xf, xd⟩, hxa⟩ : ∃ x, E[q]? = some x := ⟨_, List.getElem?_eq_getElem (by rw [hEl.out]; exact hq)⟩
                  obtain ⟨a1, c1', hae, _, har⟩ := hE5.out wz hQ.out.below
                  injection hae with q1 q2 q3
                  subst q1
                  obtain ⟨be, oe, rfl, hbe, hce⟩ := har.resolve_left (by rintro rfl; simp at hxa)
                  have hre : wz.rangeAt be (oe + q * 8) (RW.mve (xf, xd)) := hce q _ hxa
                  have hi8 : (Tryd.prog.info? 24).map (·.size) = some (RW.mve (xf, xd)).length := by kernel_rfl
                  have hi8m := msg_info xf xd (.slice none 0 0)
                  have ho8 := msg_one xf xd (.slice none 0 0) rfl
                  obtain ⟨bv, hbv⟩ : ∃ b, b = wz.heap.size := ⟨_, rfl⟩
                  have hV0 := VB.new hQ.out hB4s.out (RW.mcells xf xd (.slice none 0 0))
                  rw [← hbv] at hV0
                  have hV0H := hide hV0
                  have hbvH := hide hbv
                  have hxaH := hide hxa
                  have hbvm := hide (show bv ≠ mb by have h1 := hQ.out.b.lt.2; omega)
                  clear hce har hbe hV0 hbv hxa q2 q3
                  go_upto_region 33 with (first
                    | (refine wpList_load_mid rfl 24 (.tmp 176) rfl be (oe + q * 8) rfl (RW.mve (xf, xd)) _ hre Tryd.underlying24 rfl hi8 ?_)
                    | (refine wpList_store_new rfl 24 (.tmp 22) (.tmp 177) rfl (RW.mcells xf xd (.slice none 0 0)) rfl rfl 24 _ hi8m rfl ho8 ?_))
                  rw [← hbvH.out]
                  refine gen_world (VB wq B4 bx mb cx dm N LE LM bv (RW.mcells xf xd (.slice none 0 0))) hV0H.out ?_
                  clear hre hi8 hV0H hbvH hQ hxaH
                  intro W1 hV1
                  have c0 : W1.cell? ⟨bv, 0, none⟩ = some (.int .i64 (xf 0)) := hV1.cell 0
                  have c3 : W1.cell? ⟨bv, 3, none⟩ = some (.int .i64 (xf 3)) := hV1.cell 3
                  have c4 : W1.cell? ⟨bv, 4, none⟩ = some (.int .i64 (xf 4)) := hV1.cell 4
                  have c6 : W1.cell? ⟨bv, 6, none⟩ = some (.string xd) := hV1.cell 6
                  have hmH := hide (most_box hV1.t.b hN7 (xf 0) (xf 3) (xf 4))
                  have hV1H := hide hV1
                  clear hV1
                  go_upto_region 34 with (go_at_call 33; refine hmH.out.mono ?_; rintro e w5 ⟨⟨best, most, rfl, hsp⟩, hB5⟩; have hV2 := hide (hV1H.out.next hB5 hB4s.out); have hspH := hide hsp; clear hB5 hsp)
                  refine gen_world (VB wq B4 bx mb cx dm N LE LM bv (RW.mcells xf xd (.slice none 0 0))) hV2.out ?_
                  clear hV2 hmH hV1H c0 c3 c4 c6
                  intro W2 hV1
                  have c0 : W2.cell? ⟨bv, 0, none⟩ = some (.int .i64 (xf 0)) := hV1.cell 0
                  have c3 : W2.cell? ⟨bv, 3, none⟩ = some (.int .i64 (xf 3)) := hV1.cell 3
                  have c4 : W2.cell? ⟨bv, 4, none⟩ = some (.int .i64 (xf 4)) := hV1.cell 4
                  have c6 : W2.cell? ⟨bv, 6, none⟩ = some (.string xd) := hV1.cell 6
                  have hmH := hide (most_box hV1.t.c hN7 (xf 0) (xf 3) (xf 4))
                  have hV1H := hide hV1
                  clear hV1
                  go_upto_region 35 with (go_at_call 33; refine hmH.out.mono ?_; rintro e w5 ⟨⟨best2, most2, rfl, hsp⟩, hB5⟩; have hV2 := hide (hV1H.out.next hB5 hB4s.out); have hspH2 := hide hsp; clear hB5 hsp)
                  have hfe : (fun d => RW.cnt LM (xf 0) (xf 3) (xf 4) d N) = (fun d => RW.cnt LE (xf 0) (xf 3) (xf 4) d N) := funext fun d => (RW.cnt_same hvs.out _ _ _ _ _).symm
                  obtain ⟨e1, e2⟩ := RW.MostSpec.unique hspH.out (hfe ▸ hspH2.out)
                  subst e1 e2
                  refine gen_world (VB wq B4 bx mb cx dm N LE LM bv (RW.mcells xf xd (.slice none 0 0))) hV2.out ?_
                  clear hV2 hmH hV1H c0 c3 c4 c6 hspH hspH2 hfe
                  intro W3 hV3
                  refine wp_region_staged (fun _ W => VB wq B4 bx mb cx dm N LE LM bv (RW.mcells xf xd (.slice none 0 0)) W) [] (by kernel_rfl) (by kernel_rfl) (by rfl) (hV3.next (Below.refl _ _).drew hB4s.out) ?_
                  clear hV3
                  refine st_val (.string best) (by rfl) (by rfl) (fun w => op_mv rfl rfl) ?_
                  simp only [Act.put, List.setIfInBounds_toArray, List.set_cons_zero, List.set_cons_succ]
                  refine st_val (.string best) (by rfl) (by rfl) (fun w => op_mv rfl rfl) ?_
                  simp only [Act.put, List.setIfInBounds_toArray, List.set_cons_zero, List.set_cons_succ]
                  refine st_val (.bool false) (by rfl) (by rfl) (fun w => op_neq_strF rfl rfl rfl) ?_
                  simp only [Act.put, List.setIfInBounds_toArray, List.set_cons_zero, List.set_cons_succ]
                  refine st_val (.bool false) (by rfl) (by rfl) (fun w => op_mv rfl rfl) ?_
                  simp only [Act.put, List.setIfInBounds_toArray, List.set_cons_zero, List.set_cons_succ]
                  refine st_val (.int .i64 most) (by rfl) (by rfl) (fun w => op_mv rfl rfl) ?_
                  simp only [Act.put, List.setIfInBounds_toArray, List.set_cons_zero, List.set_cons_succ]
                  refine st_val (.int .i64 most) (by rfl) (by rfl) (fun w => op_mv rfl rfl) ?_
                  simp only [Act.put, List.setIfInBounds_toArray, List.set_cons_zero, List.set_cons_succ]
                  refine st_val (.bool false) (by rfl) (by rfl) (fun w => op_neq_intF rfl rfl rfl) ?_
                  simp only [Act.put, List.setIfInBounds_toArray, List.set_cons_zero, List.set_cons_succ]
                  refine st_val (.bool false) (by rfl) (by rfl) (fun w => op_pick rfl rfl rfl rfl rfl) ?_
                  simp only [Act.put, List.setIfInBounds_toArray, List.set_cons_zero, List.set_cons_succ]
                  refine st_val (.bool false) (by rfl) (by rfl) (fun w => op_mv rfl rfl) ?_
                  simp only [Act.put, List.setIfInBounds_toArray, List.set_cons_zero, List.set_cons_succ]
                  refine st_val (.pointer (some ⟨bx, 0, none⟩)) (by rfl) (by rfl) (fun w => op_mv rfl rfl) ?_
                  simp only [Act.put, List.setIfInBounds_toArray, List.set_cons_zero, List.set_cons_succ]
                  refine st_val (.pointer (some ⟨bv, 0, none⟩)) (by rfl) (by rfl) (fun w => op_fa_0 rfl rfl) ?_
                  simp only [Act.put, List.setIfInBounds_toArray, List.set_cons_zero, List.set_cons_succ]
                  refine st_op (.int .i64 (xf 0)) (by rfl) (by rfl) (fun j w0 _ hS => by rw [op_load_int rfl rfl (hS.cell 0)]; exact ⟨rfl, hS⟩) ?_
                  simp only [Act.put, List.setIfInBounds_toArray, List.set_cons_zero, List.set_cons_succ]
                  refine st_val (.pointer (some ⟨bv, 3, none⟩)) (by rfl) (by rfl) (fun w => op_fa_3 rfl rfl) ?_
                  simp only [Act.put, List.setIfInBounds_toArray, List.set_cons_zero, List.set_cons_succ]
                  refine st_op (.int .i64 (xf 3)) (by rfl) (by rfl) (fun j w0 _ hS => by rw [op_load_int rfl rfl (hS.cell 3)]; exact ⟨rfl, hS⟩) ?_
                  simp only [Act.put, List.setIfInBounds_toArray, List.set_cons_zero, List.set_cons_succ]
                  refine st_val (.pointer (some ⟨bv, 4, none⟩)) (by rfl) (by rfl) (fun w => op_fa_4 rfl rfl) ?_
                  simp only [Act.put, List.setIfInBounds_toArray, List.set_cons_zero, List.set_cons_succ]
                  refine st_op (.int .i64 (xf 4)) (by rfl) (by rfl) (fun j w0 _ hS => by rw [op_load_int rfl rfl (hS.cell 4)]; exact ⟨rfl, hS⟩) ?_
                  simp only [Act.put, List.setIfInBounds_toArray, List.set_cons_zero, List.set_cons_succ]
                  refine st_val (.pointer (some ⟨bv, 6, none⟩)) (by rfl) (by rfl) (fun w => op_fa_6 rfl rfl) ?_
                  simp only [Act.put, List.setIfInBounds_toArray, List.set_cons_zero, List.set_cons_succ]
                  refine st_op (.string xd) (by rfl) (by rfl) (fun j w0 _ hS => by rw [op_load_str rfl rfl (hS.cell 6)]; exact ⟨rfl, hS⟩) ?_
                  simp only [Act.put, List.setIfInBounds_toArray, List.set_cons_zero, List.set_cons_succ]
                  refine st_op (.int .i64 (RW.cnt LE (xf 0) (xf 3) (xf 4) xd N : Nat)) (by rfl) (by rfl) (fun j w0 _ hS => by exact x_of_calls (op_run5 rfl rfl rfl rfl rfl rfl rfl cf_count) ((count_box hS.t.b hN7 (xf 0) (xf 3) (xf 4) xd).mono fun e w' h => by obtain ⟨rfl, hB⟩ := h; exact ⟨rfl, hS.next hB hB4s.out⟩)) ?_
                  simp only [Act.put, List.setIfInBounds_toArray, List.set_cons_zero, List.set_cons_succ]
                  refine st_val (.pointer (some ⟨cx, 0, none⟩)) (by rfl) (by rfl) (fun w => op_mv rfl rfl) ?_
                  simp only [Act.put, List.setIfInBounds_toArray, List.set_cons_zero, List.set_cons_succ]
                  refine st_val (.pointer (some ⟨bv, 0, none⟩)) (by rfl) (by rfl) (fun w => op_fa_0 rfl rfl) ?_
                  simp only [Act.put, List.setIfInBounds_toArray, List.set_cons_zero, List.set_cons_succ]
                  refine st_op (.int .i64 (xf 0)) (by rfl) (by rfl) (fun j w0 _ hS => by rw [op_load_int rfl rfl (hS.cell 0)]; exact ⟨rfl, hS⟩) ?_
                  simp only [Act.put, List.setIfInBounds_toArray, List.set_cons_zero, List.set_cons_succ]
                  refine st_val (.pointer (some ⟨bv, 3, none⟩)) (by rfl) (by rfl) (fun w => op_fa_3 rfl rfl) ?_
                  simp only [Act.put, List.setIfInBounds_toArray, List.set_cons_zero, List.set_cons_succ]
                  refine st_op (.int .i64 (xf 3)) (by rfl) (by rfl) (fun j w0 _ hS => by rw [op_load_int rfl rfl (hS.cell 3)]; exact ⟨rfl, hS⟩) ?_
                  simp only [Act.put, List.setIfInBounds_toArray, List.set_cons_zero, List.set_cons_succ]
                  refine st_val (.pointer (some ⟨bv, 4, none⟩)) (by rfl) (by rfl) (fun w => op_fa_4 rfl rfl) ?_
                  simp only [Act.put, List.setIfInBounds_toArray, List.set_cons_zero, List.set_cons_succ]
                  refine st_op (.int .i64 (xf 4)) (by rfl) (by rfl) (fun j w0 _ hS => by rw [op_load_int rfl rfl (hS.cell 4)]; exact ⟨rfl, hS⟩) ?_
                  simp only [Act.put, List.setIfInBounds_toArray, List.set_cons_zero, List.set_cons_succ]
                  refine st_val (.pointer (some ⟨bv, 6, none⟩)) (by rfl) (by rfl) (fun w => op_fa_6 rfl rfl) ?_
                  simp only [Act.put, List.setIfInBounds_toArray, List.set_cons_zero, List.set_cons_succ]
                  refine st_op (.string xd) (by rfl) (by rfl) (fun j w0 _ hS => by rw [op_load_str rfl rfl (hS.cell 6)]; exact ⟨rfl, hS⟩) ?_
                  simp only [Act.put, List.setIfInBounds_toArray, List.set_cons_zero, List.set_cons_succ]
                  refine st_op (.int .i64 (RW.cnt LE (xf 0) (xf 3) (xf 4) xd N : Nat)) (by rfl) (by rfl) (fun j w0 _ hS => by exact x_of_calls (op_run5 rfl rfl rfl rfl rfl rfl rfl cf_count) ((count_box hS.t.c hN7 (xf 0) (xf 3) (xf 4) xd).mono fun e w' h => by obtain ⟨rfl, hB⟩ := h; exact ⟨by rw [RW.cnt_same hvs.out], hS.next hB hB4s.out⟩)) ?_
                  simp only [Act.put, List.setIfInBounds_toArray, List.set_cons_zero, List.set_cons_succ]
                  refine st_val (.bool false) (by rfl) (by rfl) (fun w => op_neq_intF rfl rfl rfl) ?_
                  simp only [Act.put, List.setIfInBounds_toArray, List.set_cons_zero, List.set_cons_succ]
                  refine st_val (.bool false) (by rfl) (by rfl) (fun w => op_pick rfl rfl rfl rfl rfl) ?_
                  simp only [Act.put, List.setIfInBounds_toArray, List.set_cons_zero, List.set_cons_succ]
                  refine st_val (.bool false) (by rfl) (by rfl) (fun w => op_mv rfl rfl) ?_
                  simp only [Act.put, List.setIfInBounds_toArray, List.set_cons_zero, List.set_cons_succ]
                  refine st_val (.pointer (some ⟨bx, 0, none⟩)) (by rfl) (by rfl) (fun w => op_mv rfl rfl) ?_
                  simp only [Act.put, List.setIfInBounds_toArray, List.set_cons_zero, List.set_cons_succ]
                  refine st_val (.pointer (some ⟨bv, 3, none⟩)) (by rfl) (by rfl) (fun w => op_fa_3 rfl rfl) ?_
                  simp only [Act.put, List.setIfInBounds_toArray, List.set_cons_zero, List.set_cons_succ]
                  refine st_op (.int .i64 (xf 3)) (by rfl) (by rfl) (fun j w0 _ hS => by rw [op_load_int rfl rfl (hS.cell 3)]; exact ⟨rfl, hS⟩) ?_
                  simp only [Act.put, List.setIfInBounds_toArray, List.set_cons_zero, List.set_cons_succ]
                  refine st_val (.pointer (some ⟨bv, 4, none⟩)) (by rfl) (by rfl) (fun w => op_fa_4 rfl rfl) ?_
                  simp only [Act.put, List.setIfInBounds_toArray, List.set_cons_zero, List.set_cons_succ]
                  refine st_op (.int .i64 (xf 4)) (by rfl) (by rfl) (fun j w0 _ hS => by rw [op_load_int rfl rfl (hS.cell 4)]; exact ⟨rfl, hS⟩) ?_
                  simp only [Act.put, List.setIfInBounds_toArray, List.set_cons_zero, List.set_cons_succ]
                  refine st_op (.int .i64 (RW.aheadN LE (xf 3) (xf 4) : Nat)) (by rfl) (by rfl) (fun j w0 _ hS => by exact x_of_calls (op_run3 rfl rfl rfl rfl rfl cf_ahead) ((ahead_box hS.t.b (xf 3) (xf 4)).mono fun e w' h => by obtain ⟨rfl, hB⟩ := h; exact ⟨rfl, hS.next hB hB4s.out⟩)) ?_
                  simp only [Act.put, List.setIfInBounds_toArray, List.set_cons_zero, List.set_cons_succ]
                  refine st_val (.pointer (some ⟨cx, 0, none⟩)) (by rfl) (by rfl) (fun w => op_mv rfl rfl) ?_
                  simp only [Act.put, List.setIfInBounds_toArray, List.set_cons_zero, List.set_cons_succ]
                  refine st_val (.pointer (some ⟨bv, 3, none⟩)) (by rfl) (by rfl) (fun w => op_fa_3 rfl rfl) ?_
                  simp only [Act.put, List.setIfInBounds_toArray, List.set_cons_zero, List.set_cons_succ]
                  refine st_op (.int .i64 (xf 3)) (by rfl) (by rfl) (fun j w0 _ hS => by rw [op_load_int rfl rfl (hS.cell 3)]; exact ⟨rfl, hS⟩) ?_
                  simp only [Act.put, List.setIfInBounds_toArray, List.set_cons_zero, List.set_cons_succ]
                  refine st_val (.pointer (some ⟨bv, 4, none⟩)) (by rfl) (by rfl) (fun w => op_fa_4 rfl rfl) ?_
                  simp only [Act.put, List.setIfInBounds_toArray, List.set_cons_zero, List.set_cons_succ]
                  refine st_op (.int .i64 (xf 4)) (by rfl) (by rfl) (fun j w0 _ hS => by rw [op_load_int rfl rfl (hS.cell 4)]; exact ⟨rfl, hS⟩) ?_
                  simp only [Act.put, List.setIfInBounds_toArray, List.set_cons_zero, List.set_cons_succ]
                  refine st_op (.int .i64 (RW.aheadN LE (xf 3) (xf 4) : Nat)) (by rfl) (by rfl) (fun j w0 _ hS => by exact x_of_calls (op_run3 rfl rfl rfl rfl rfl cf_ahead) ((ahead_box hS.t.c (xf 3) (xf 4)).mono fun e w' h => by obtain ⟨rfl, hB⟩ := h; exact ⟨by rw [RW.aheadN_same hvs.out], hS.next hB hB4s.out⟩)) ?_
                  simp only [Act.put, List.setIfInBounds_toArray, List.set_cons_zero, List.set_cons_succ]
                  refine st_val (.bool false) (by rfl) (by rfl) (fun w => op_neq_intF rfl rfl rfl) ?_
                  simp only [Act.put, List.setIfInBounds_toArray, List.set_cons_zero, List.set_cons_succ]
                  refine st_val (.bool false) (by rfl) (by rfl) (fun w => op_pick rfl rfl rfl rfl rfl) ?_
                  simp only [Act.put, List.setIfInBounds_toArray, List.set_cons_zero, List.set_cons_succ]
                  refine st_nil ?_
                  intro W4 hV4
                  have hT5 := hide hV4.t
                  clear hV4
                  go_wp2
                  go_roundw
                  case rel => exact ⟨q + 1, by go_num, by omega, hT5⟩
                  case measure => simp [intOf]; omega
                · have hqj2 : (j : Int) ≤ q := by omega
                  have hend := hide (hw5.out _ hQ.out.below)
                  go_wp2
                  go_ret
                  exact ⟨rfl, hBH.out ▸ hend.out⟩
        · obtain ⟨hlt, hq60', hj1⟩ : q < no ∧ q < 60 ∧ 1 < j := of_decide_eq_true hccH.out.symm
          clear hccH
          obtain ⟨oj, hx⟩ : ∃ x, O[q]? = some x := ⟨_, List.getElem?_eq_getElem (by rw [← hnoH.out]; exact hlt)⟩
          have hxb := hOH.out _ (List.mem_of_getElem? hx)
          obtain ⟨bq, oq, rfl, hbq, hcq⟩ := haoH.out.resolve_left (by rintro rfl; simp at hx)
          have k1 : wq.cell? ⟨bq, oq + q, none⟩ = some (.int .i64 oj) := by
            have h1 := hcq q oj hx 0 _ rfl
            rw [Nat.mul_one, Nat.add_zero] at h1
            exact (World.cell?_of_block (a := ⟨bq, oq + q, none⟩) ((hn4.out wq hBw.out).block _ (by rw [hBH.out]; exact hbq))).trans h1
          have hPa := hide (fun W => pick_any oj ((j : Int) - 1) hxb.1 hxb.2 (by omega) (by omega) W)
          have ba := RW.pickI_bd oj ((j : Int) - 1) (by omega)
          obtain ⟨a, ha⟩ : ∃ a : Nat, (a : Int) = RW.pickI oj ((j : Int) - 1) := ⟨(RW.pickI oj ((j : Int) - 1)).toNat, by omega⟩
          rw [← ha] at hPa
          have hal : a + 1 < j := by omega
          obtain ⟨xa, hxa⟩ : ∃ x, M[a]? = some x := ⟨_, List.getElem?_eq_getElem (by rw [hMl.out]; omega)⟩
          obtain ⟨ya, hya⟩ : ∃ x, M[a + 1]? = some x := ⟨_, List.getElem?_eq_getElem (by rw [hMl.out]; omega)⟩
          obtain ⟨gm, cm', hvm, _⟩ := hM.out.at hxa
          rw [hMl.out] at hvm
          injection hvm with q1 q2 q3
          subst q1
          have hxaH := hide hxa
          have hyaH := hide hya
          have hal2 := hide (show a < j by omega)
          have hal1 := hide hal
          clear hx hxb hbq hcq ba ha hxa hya q2 q3
          go_upto_region 13 with (go_at_call 22; refine (hPa.out _).mono ?_; rintro e w' ⟨rfl, rfl⟩)
          clear k1
          refine wp_region_k (fun _ W => MsgO W B3 (.slice (some ⟨gm, 0, none⟩) j cm) M ∧ Below B3 wo W) (fun _ => True) [] (.op 0 (.op 1 (.op 2 (.op 3 (.op 4 (.op 5 (.op 6 (.op 7 (.op 8 (.op 9 (.op 10 (.op 11 .nil)))))))))))) (by kernel_rfl) (by kernel_rfl) (by rfl) (by kernel_rfl) ⟨hM.out.next (Below.refl _ _).drew, hBw.out.trans (Below.refl _ _).drew⟩ trivial ?_
          refine k_val (.slice (some ⟨gm, 0, none⟩) j cm) (by apply opN; repeat' (first | apply OpAt.z | apply OpAt.s)) (by rfl) (by rfl) (fun _ W hS => op_mv rfl rfl) ?_
          simp only [Act.put, List.setIfInBounds_toArray, List.set_cons_zero, List.set_cons_succ]
          refine k_val (.int .i64 (a : Int)) (by apply opN; repeat' (first | apply OpAt.z | apply OpAt.s)) (by rfl) (by rfl) (fun _ W hS => op_mv rfl rfl) ?_
          simp only [Act.put, List.setIfInBounds_toArray, List.set_cons_zero, List.set_cons_succ]
          refine k_val (.pointer (some ⟨gm, a * 8, none⟩)) (by apply opN; repeat' (first | apply OpAt.z | apply OpAt.s)) (by rfl) (by rfl) (fun _ W hS => op_idx_m rfl rfl rfl hal2.out) ?_
          simp only [Act.put, List.setIfInBounds_toArray, List.set_cons_zero, List.set_cons_succ]
          refine k_val (.pointer (some ⟨gm, a * 8 + 1, none⟩)) (by apply opN; repeat' (first | apply OpAt.z | apply OpAt.s)) (by rfl) (by rfl) (fun _ W hS => op_fa1_m rfl rfl) ?_
          simp only [Act.put, List.setIfInBounds_toArray, List.set_cons_zero, List.set_cons_succ]
          refine k_val (.int .i64 (xa.1 1)) (by apply opN; repeat' (first | apply OpAt.z | apply OpAt.s)) (by rfl) (by rfl) (fun _ W hS => op_load_int rfl rfl ((hS.1.at2 hxaH.out).2.2.1 1 _ rfl)) ?_
          simp only [Act.put, List.setIfInBounds_toArray, List.set_cons_zero, List.set_cons_succ]
          refine k_val (.slice (some ⟨gm, 0, none⟩) j cm) (by apply opN; repeat' (first | apply OpAt.z | apply OpAt.s)) (by rfl) (by rfl) (fun _ W hS => op_mv rfl rfl) ?_
          simp only [Act.put, List.setIfInBounds_toArray, List.set_cons_zero, List.set_cons_succ]
          refine k_val (.int .i64 (a : Int)) (by apply opN; repeat' (first | apply OpAt.z | apply OpAt.s)) (by rfl) (by rfl) (fun _ W hS => op_mv rfl rfl) ?_
          simp only [Act.put, List.setIfInBounds_toArray, List.set_cons_zero, List.set_cons_succ]
          refine k_val (.int .i64 ((a + 1 : Nat) : Int)) (by apply opN; repeat' (first | apply OpAt.z | apply OpAt.s)) (by rfl) (by rfl) (fun _ W hS => op_addi rfl rfl rfl (by have := hal2.out; omega) (by have := hal2.out; omega)) ?_
          simp only [Act.put, List.setIfInBounds_toArray, List.set_cons_zero, List.set_cons_succ]
          refine k_val (.pointer (some ⟨gm, (a + 1) * 8, none⟩)) (by apply opN; repeat' (first | apply OpAt.z | apply OpAt.s)) (by rfl) (by rfl) (fun _ W hS => op_idx_m rfl rfl rfl hal1.out) ?_
          simp only [Act.put, List.setIfInBounds_toArray, List.set_cons_zero, List.set_cons_succ]
          refine k_val (.pointer (some ⟨gm, (a + 1) * 8 + 1, none⟩)) (by apply opN; repeat' (first | apply OpAt.z | apply OpAt.s)) (by rfl) (by rfl) (fun _ W hS => op_fa1_m rfl rfl) ?_
          simp only [Act.put, List.setIfInBounds_toArray, List.set_cons_zero, List.set_cons_succ]
          refine k_val (.int .i64 (ya.1 1)) (by apply opN; repeat' (first | apply OpAt.z | apply OpAt.s)) (by rfl) (by rfl) (fun _ W hS => op_load_int rfl rfl ((hS.1.at2 hyaH.out).2.2.1 1 _ rfl)) ?_
          simp only [Act.put, List.setIfInBounds_toArray, List.set_cons_zero, List.set_cons_succ]
          refine k_val (.bool (xa.1 1 != ya.1 1)) (by apply opN; repeat' (first | apply OpAt.z | apply OpAt.s)) (by rfl) (by rfl) (fun _ W hS => op_neq_int rfl rfl rfl) ?_
          simp only [Act.put, List.setIfInBounds_toArray, List.set_cons_zero, List.set_cons_succ]
          refine k_nil ?_
          intro w8 hC _
          have hM8 := hide hC.1
          have hB8 := hide hC.2
          clear hC hM hBw
          obtain ⟨xf, hxf⟩ : ∃ z, z = xa.1 1 := ⟨_, rfl⟩
          obtain ⟨yf, hyf⟩ : ∃ z, z = ya.1 1 := ⟨_, rfl⟩
          rw [← hxf, ← hyf]
          have hxfH := hide hxf
          have hyfH := hide hyf
          clear hxf hyf
          by_cases hne : xf = yf
          · have hb : (xf != yf) = false := by rw [hne]; simp
            rw [hb]
            clear hb hne
            go_wp2
            go_roundw
            case rel => exact ⟨q + 1, M, by go_num, by omega, hM8.out, hsm.out, hB8.out⟩
            case measure => simp [intOf]; omega
          · have hb : (xf != yf) = true := by simpa using hne
            rw [hb]
            have hneH := hide (show xa.1 1 ≠ ya.1 1 by rw [← hxfH.out, ← hyfH.out]; exact hne)
            clear hb hne
            go_upto_region 14 with fail
            refine wp_region_k (fun g W => Below B3 wo W ∧ (15 ∉ g → MsgO W B3 (.slice (some ⟨gm, 0, none⟩) j cm) M)) (fun W => MsgO W B3 (.slice (some ⟨gm, 0, none⟩) j cm) M ∧ Below B3 wo W) [15, 17] (.op 0 (.op 1 (.op 2 (.op 3 (.op 4 (.op 5 (.op 6 (.op 7 (.op 8 (.op 9 (.op 10 (.op 11 (.op 12 (.op 13 (.op 14 (.op 15 (.op 16 (.op 17 .nil)))))))))))))))))) (by kernel_rfl) (by kernel_rfl) (by rfl) (by kernel_rfl) ⟨hB8.out.trans (Below.refl _ _).drew, fun _ => hM8.out.next (Below.refl _ _).drew⟩ ⟨hM8.out.next (Below.refl _ _).drew, hB8.out.trans (Below.refl _ _).drew⟩ ?_
            refine k_val (.slice (some ⟨gm, 0, none⟩) j cm) (by apply opN; repeat' (first | apply OpAt.z | apply OpAt.s)) (by rfl) (by rfl) (fun _ W hS => op_mv rfl rfl) ?_
            simp only [Act.put, List.setIfInBounds_toArray, List.set_cons_zero, List.set_cons_succ]
            refine k_val (.int .i64 (a : Int)) (by apply opN; repeat' (first | apply OpAt.z | apply OpAt.s)) (by rfl) (by rfl) (fun _ W hS => op_mv rfl rfl) ?_
            simp only [Act.put, List.setIfInBounds_toArray, List.set_cons_zero, List.set_cons_succ]
            refine k_val (.slice (some ⟨gm, 0, none⟩) j cm) (by apply opN; repeat' (first | apply OpAt.z | apply OpAt.s)) (by rfl) (by rfl) (fun _ W hS => op_mv rfl rfl) ?_
            simp only [Act.put, List.setIfInBounds_toArray, List.set_cons_zero, List.set_cons_succ]
            refine k_val (.int .i64 (a : Int)) (by apply opN; repeat' (first | apply OpAt.z | apply OpAt.s)) (by rfl) (by rfl) (fun _ W hS => op_mv rfl rfl) ?_
            simp only [Act.put, List.setIfInBounds_toArray, List.set_cons_zero, List.set_cons_succ]
            refine k_val (.int .i64 ((a + 1 : Nat) : Int)) (by apply opN; repeat' (first | apply OpAt.z | apply OpAt.s)) (by rfl) (by rfl) (fun _ W hS => op_addi rfl rfl rfl (by have := hal2.out; omega) (by have := hal2.out; omega)) ?_
            simp only [Act.put, List.setIfInBounds_toArray, List.set_cons_zero, List.set_cons_succ]
            refine k_val (.slice (some ⟨gm, 0, none⟩) j cm) (by apply opN; repeat' (first | apply OpAt.z | apply OpAt.s)) (by rfl) (by rfl) (fun _ W hS => op_mv rfl rfl) ?_
            simp only [Act.put, List.setIfInBounds_toArray, List.set_cons_zero, List.set_cons_succ]
            refine k_val (.int .i64 (a : Int)) (by apply opN; repeat' (first | apply OpAt.z | apply OpAt.s)) (by rfl) (by rfl) (fun _ W hS => op_mv rfl rfl) ?_
            simp only [Act.put, List.setIfInBounds_toArray, List.set_cons_zero, List.set_cons_succ]
            refine k_val (.int .i64 ((a + 1 : Nat) : Int)) (by apply opN; repeat' (first | apply OpAt.z | apply OpAt.s)) (by rfl) (by rfl) (fun _ W hS => op_addi rfl rfl rfl (by have := hal2.out; omega) (by have := hal2.out; omega)) ?_
            simp only [Act.put, List.setIfInBounds_toArray, List.set_cons_zero, List.set_cons_succ]
            refine k_val (.pointer (some ⟨gm, (a + 1) * 8, none⟩)) (by apply opN; repeat' (first | apply OpAt.z | apply OpAt.s)) (by rfl) (by rfl) (fun _ W hS => op_idx_m rfl rfl rfl hal1.out) ?_
            simp only [Act.put, List.setIfInBounds_toArray, List.set_cons_zero, List.set_cons_succ]
            refine k_bef 15 (.agg (RW.mcells ya.1 ya.2 (.slice none 0 0))) (by apply opN; repeat' (first | apply OpAt.z | apply OpAt.s)) (by rfl) (by rfl) (by decide +kernel) (by rfl) (fun _ W hg hS => op_load_m rfl rfl ((hS.2 hg).at2 hyaH.out).2.2.1) ?_
            simp only [Act.put, List.setIfInBounds_toArray, List.set_cons_zero, List.set_cons_succ]
            refine k_val (.slice (some ⟨gm, 0, none⟩) j cm) (by apply opN; repeat' (first | apply OpAt.z | apply OpAt.s)) (by rfl) (by rfl) (fun _ W hS => op_mv rfl rfl) ?_
            simp only [Act.put, List.setIfInBounds_toArray, List.set_cons_zero, List.set_cons_succ]
            refine k_val (.int .i64 (a : Int)) (by apply opN; repeat' (first | apply OpAt.z | apply OpAt.s)) (by rfl) (by rfl) (fun _ W hS => op_mv rfl rfl) ?_
            simp only [Act.put, List.setIfInBounds_toArray, List.set_cons_zero, List.set_cons_succ]
            refine k_val (.pointer (some ⟨gm, a * 8, none⟩)) (by apply opN; repeat' (first | apply OpAt.z | apply OpAt.s)) (by rfl) (by rfl) (fun _ W hS => op_idx_m rfl rfl rfl hal2.out) ?_
            simp only [Act.put, List.setIfInBounds_toArray, List.set_cons_zero, List.set_cons_succ]
            refine k_bef 15 (.agg (RW.mcells xa.1 xa.2 (.slice none 0 0))) (by apply opN; repeat' (first | apply OpAt.z | apply OpAt.s)) (by rfl) (by rfl) (by decide +kernel) (by rfl) (fun _ W hg hS => op_load_m rfl rfl ((hS.2 hg).at2 hxaH.out).2.2.1) ?_
            simp only [Act.put, List.setIfInBounds_toArray, List.set_cons_zero, List.set_cons_succ]
            refine k_val (.pointer (some ⟨gm, a * 8, none⟩)) (by apply opN; repeat' (first | apply OpAt.z | apply OpAt.s)) (by rfl) (by rfl) (fun _ W hS => op_idx_m rfl rfl rfl hal2.out) ?_
            simp only [Act.put, List.setIfInBounds_toArray, List.set_cons_zero, List.set_cons_succ]
            refine k_step (fun K' u => K' = fun W => MsgO W B3 (.slice (some ⟨gm, 0, none⟩) j cm) (M.set a ya) ∧ Below B3 wo W) (by apply opN; repeat' (first | apply OpAt.z | apply OpAt.s)) (by rfl) (by rfl) (by rfl) (fun W hC hK => ?_) ?_
            · have hat := hK.1.at2 (hxaH.out)
              have hM1 := hK.1
              have hlM : (M).length = j := hMl.out
              have hst := MsgO.set (i := a) (L := M) (c := cm) (g := gm) (B := B3) (W := W) (by rw [hlM]; exact hM1) (by rw [hlM]; exact hal2.out) ya
              rw [hlM] at hst
              have hb2 := below_sets hat.1 (RW.mve ya) (a * 8) W hK.2
              exact xup_skip (op_store_m rfl rfl rfl hat.2.2.2) ⟨⟨hb2, fun h => absurd (by decide) h⟩, _, ⟨hst, hb2⟩, rfl⟩
            rintro _ _ rfl
            simp only [Act.put]
            refine k_val (.pointer (some ⟨gm, (a + 1) * 8, none⟩)) (by apply opN; repeat' (first | apply OpAt.z | apply OpAt.s)) (by rfl) (by rfl) (fun _ W hS => op_idx_m rfl rfl rfl hal1.out) ?_
            simp only [Act.put, List.setIfInBounds_toArray, List.set_cons_zero, List.set_cons_succ]
            refine k_step (fun K' u => K' = fun W => MsgO W B3 (.slice (some ⟨gm, 0, none⟩) j cm) ((M.set a ya).set (a + 1) xa) ∧ Below B3 wo W) (by apply opN; repeat' (first | apply OpAt.z | apply OpAt.s)) (by rfl) (by rfl) (by rfl) (fun W hC hK => ?_) ?_
            · have hat := hK.1.at2 (List.getElem?_eq_getElem (by rw [List.length_set, hMl.out]; exact hal1.out))
              have hM1 := hK.1
              have hlM : (M.set a ya).length = j := by rw [List.length_set]; exact hMl.out
              have hst := MsgO.set (i := (a + 1)) (L := M.set a ya) (c := cm) (g := gm) (B := B3) (W := W) (by rw [hlM]; exact hM1) (by rw [hlM]; exact hal1.out) xa
              rw [hlM] at hst
              have hb2 := below_sets hat.1 (RW.mve xa) ((a + 1) * 8) W hK.2
              exact xup_skip (op_store_m rfl rfl rfl hat.2.2.2) ⟨⟨hb2, fun h => absurd (by decide) h⟩, _, ⟨hst, hb2⟩, rfl⟩
            rintro _ _ rfl
            simp only [Act.put]
            refine k_nil ?_
            intro w9 hC hK
            have hM9 := hide hK.1
            have hB9 := hide hK.2
            have hs9 := hide (hsm.out.swap a xa ya hxaH.out hyaH.out hneH.out)
            have hl9 := hide (show ((M.set a ya).set (a + 1) xa).length = j by rw [List.length_set, List.length_set]; exact hMl.out)
            obtain ⟨M2, hM2⟩ : ∃ M2, M2 = (M.set a ya).set (a + 1) xa := ⟨_, rfl⟩
            rw [← hM2] at hM9 hs9 hl9
            clear hC hK hM2 hM8 hB8
            go_wp2
            go_roundw
            case rel => exact ⟨q + 1, M2, by go_num, by omega, hM9.out, hs9.out, hB9.out⟩
            case measure => simp [intOf]; omega
    · obtain ⟨hlm, hl40⟩ := of_decide_eq_true hccH.out.symm
      obtain ⟨b, o, rfl, hb, hc⟩ := hvaH.out.resolve_left (by omega)
      have hrg : wo.rangeAt b (o + j * 5) (RW.five (X j)).toList := five_range fun i hi => (World.cell?_of_block (a := ⟨b, o + j * 5 + i, none⟩) (hBw.out.block _ (by rw [hBH.out]; exact hb))).trans (hc j hlm i hi)
      have hi5 : (Tryd.prog.info? 49).map (·.size) = some (RW.five (X j)).toList.length := by kernel_rfl
      have hvt := hide (vote5_any (X j) (hXH.out j hlm) wo)
      have hsu := hide (RW.votesL_succ X j)
      have hel := hide (RW.votesL_len X j)
      have hmz : (RW.mcells (RW.vn (X j)) (RW.vd (X j)) (.slice none 0 0)).size = 8 := rfl
      clear hccH hc
      go_wp2_with (first
        | (refine wpList_load_mid rfl 49 (.tmp 44) rfl b (o + j * 5) rfl (RW.five (X j)).toList _ hrg Tryd.underlying49 rfl hi5 ?_)
        | (go_at_call 30; refine hvt.out.mono ?_; rintro e w3 ⟨rfl, hB3⟩; obtain ⟨v4, w4, hrun, hO4, hB4, _⟩ := MsgO.appNew (v := .slice ae j ce) (L := RW.votesL X j) ((show MsgO wo B (.slice ae j ce) (RW.votesL X j) from hel.out.symm ▸ hM.out).next hB3) (RW.vn (X j), RW.vd (X j)) (by rw [hel.out]; omega) (hsz.out _ (hBw.out.trans (hB3.mono (hsz.out _ hBw.out)))); have hO4H := hide hO4; have hB4H := hide ((hBw.out.trans (hB3.mono (hsz.out _ hBw.out))).trans hB4); clear hB3 hO4 hB4)
        | (at_builtin; rw [fold_msg8]; refine wpList_app_run rfl (.tmp 41) (.tmp 47) rfl rfl rfl hrun ?_))
      go_roundw
      case rel => exact ⟨j + 1, by go_num, by omega, by omega, by rw [hsu.out]; exact hO4H.out, hB4H.out⟩
      case measure => simp [intOf]; omega
end Go.Proofs.YtcbckcojebanaaaDoor

/-
  Package royaltyref25: Ahead: what it returns; only new memory is written.
-/
import Derived.Test.YtcbckcojebanaaaDoorRbx1
namespace Go.Proofs.YtcbckcojebanaaaDoor
open Go.RowKit RG
namespace RW
theorem hasF_snoc (h r f : Int) (l : List (Vk × ByteArray)) (x : Mx) : hasF h r f (l ++ [mxp x]) = (hasF h r f l || (((x.1 1 == f) && (x.1 3 == h)) && decide (r ≤ x.1 4))) := by
  unfold hasF
  rw [List.any_append, List.any_cons, List.any_nil, Bool.or_false]
  unfold aheadK mxp vk
  by_cases e : x.1 1 = f <;> simp [e]
end RW
set_option maxRecDepth 100000 in
set_option maxHeartbeats 8000000 in
theorem rahead_any {W : World} {rb N : Nat} {v : Value} {Lx : List RW.Mx} (h : RBx W rb N v Lx) (hl : Lx.length ≤ 10000) (hN : N ≤ 7) (hh r : Int) :
    Calls Tryd.prog 38 #[.pointer (some ⟨rb, 0, none⟩), .int .i64 hh, .int .i64 r] W fun e w' => e = .returned (.int .i64 (RW.rah (Lx.map RW.mxp) hh r N : Nat)) ∧ Below W.heap.size W w' := by
  obtain ⟨av, cv, rfl⟩ := own_fm h.own
  obtain ⟨nl, hnl⟩ : ∃ n, n = Lx.length := ⟨_, rfl⟩
  have hnlH := hide hnl
  obtain ⟨LL, hLL⟩ : ∃ L, L = Lx.map RW.mxp := ⟨_, rfl⟩
  have hLLH := hide hLL
  rw [← hLL]
  have hH := hide (fun W' (hB : Below W.heap.size W W') => h.next hB)
  have hb0 := hide (Below.refl W.heap.size W)
  rw [← hnl] at hl hH
  clear h hnl hLL
  go_enter Tryd.func38, Tryd.ntmps38
  go_wp2
  go_loopw [7, 8] (fun n f wr => ∃ j : Nat, f = .int .i64 j ∧ j ≤ N ∧ n = .int .i64 (RW.rah LL hh r j : Nat) ∧ Hid (Below W.heap.size W wr)) (fun _ f _ => N - (intOf f).toNat)
  case atStart => exact ⟨0, rfl, Nat.zero_le _, rfl, hb0.out⟩
  case round =>
    clear hb0
    obtain ⟨j, rfl, hj, rfl, hB⟩ := hrel
    obtain ⟨wo, hwo⟩ : ∃ wo, wo = wr := ⟨_, rfl⟩
    subst hwo
    have hR := hH.out wo hB.out
    have c0 : wo.cell? ⟨rb, 0, none⟩ = some (.int .i64 N) := (cell_at hR.row 0).trans rfl
    have hra := hide (RW.rah_le LL hh r j)
    obtain ⟨z, hz⟩ : ∃ z, z = RW.rah LL hh r j := ⟨_, rfl⟩
    rw [← hz] at hra ⊢
    have hzH := hide hz
    clear hz hR
    by_cases hlt : j < N
    · have hltH := hide hlt
      have hjN : (j : Int) < N := by omega
      clear hlt
      go_wp2
      go_loopw [9, 10] (fun b i wr => ∃ (k : Nat) (q : Bool), b = .bool q ∧ i = .int .i64 k ∧ k ≤ nl ∧ Hid (q = RW.hasF hh r j (LL.take k) ∧ Below W.heap.size W wr)) (fun _ i _ => nl - (intOf i).toNat)
      case atStart => exact ⟨0, false, rfl, rfl, Nat.zero_le _, rfl, hB.out⟩
      case round =>
        clear hB c0 hjN
        obtain ⟨k, b, rfl, rfl, hk, hQ⟩ := hrel
        obtain ⟨wq, hwq⟩ : ∃ wo, wo = wr := ⟨_, rfl⟩
        subst hwq
        have hR := hH.out wq hQ.out.2
        have c1 : wq.cell? ⟨rb, 1, none⟩ = some (.slice av nl cv) := (cell_at hR.row 1).trans rfl
        by_cases hlt : k < nl
        · obtain ⟨x, hx⟩ : ∃ x, Lx[k]? = some x := ⟨_, List.getElem?_eq_getElem (by rw [← hnlH.out]; exact hlt)⟩
          obtain ⟨g, c, hv, _, _, hrg⟩ := hR.at hx
          injection hv with p1 p2 p3
          subst p1
          have hci := msg_info x.1 x.2.1 (RW.mxl x)
          have hco := msg_one x.1 x.2.1 (RW.mxl x) rfl
          have hi8 : (Tryd.prog.info? 24).map (·.size) = some (RW.mxe x).length := hci
          have hxl : LL[k]? = some (RW.mxp x) := by rw [hLLH.out, List.getElem?_map, hx]; rfl
          have htk := hide (RW.take_one hxl)
          have hltK := hide hlt
          clear hR hx p2 p3 hxl
          go_upto_region 10 with (first
            | (refine wpList_load_mid rfl 24 (.tmp 34) rfl g (k * 8) rfl (RW.mxe x) _ hrg Tryd.underlying24 rfl hi8 ?_)
            | (refine wpList_store_new rfl 24 (.tmp 11) (.tmp 35) rfl (RW.mcells x.1 x.2.1 (RW.mxl x)) rfl rfl 24 RW.noM hci rfl hco ?_))
          obtain ⟨b13, hb13⟩ : ∃ b, b = wq.heap.size := ⟨_, rfl⟩
          rw [← hb13]
          refine gen_world (fun W' => Below wq.heap.size wq W' ∧ W'.heap[b13]? = some (.cells (RW.mcells x.1 x.2.1 (RW.mxl x)) 24 (0, 0))) ⟨(Below.refl _ _).alloc (Nat.le_refl _) _, by rw [hb13]; exact heap_alloc_new _ _⟩ ?_
          rintro w3 ⟨hB3, h13⟩
          have k1 : w3.cell? ⟨b13, 1, none⟩ = some (.int .i64 (x.1 1)) := (cell_at h13 1).trans rfl
          have k3 : w3.cell? ⟨b13, 3, none⟩ = some (.int .i64 (x.1 3)) := (cell_at h13 3).trans rfl
          have k4 : w3.cell? ⟨b13, 4, none⟩ = some (.int .i64 (x.1 4)) := (cell_at h13 4).trans rfl
          have hB3H := hide (hQ.out.2.trans (hB3.mono hQ.out.2.size))
          have hbq := hide hQ.out.1
          clear hB3 h13 hb13 hQ hci hco hi8 hrg c1
          obtain ⟨q0, hq0⟩ : ∃ q, q = (x.1 1 == (j : Int)) := ⟨_, rfl⟩
          obtain ⟨q1, hq1⟩ : ∃ q, q = (x.1 3 == hh) := ⟨_, rfl⟩
          have e0 := hq0.symm
          have e1 := hq1.symm
          obtain ⟨c, hcc⟩ : ∃ c, c = (b || ((q0 && q1) && decide (r ≤ x.1 4))) := ⟨_, rfl⟩
          have hsn := hide (show c = RW.hasF hh r j (LL.take (k + 1)) by rw [hcc, htk.out, RW.hasF_snoc, ← hbq.out, hq0, hq1])
          have hccH := hide hcc
          clear hcc hq0 hq1
          simp only [Act.put]
          cases b
          · cases q0
            · go_wp2
              go_roundw
              case rel => exact ⟨k + 1, false, rfl, by go_num, hltK.out, by rw [← hsn.out, hccH.out] <;> rfl, hB3H.out⟩
              case measure => have := hltK.out; simp [intOf]; omega
            · cases q1
              · go_wp2
                go_roundw
                case rel => exact ⟨k + 1, false, rfl, by go_num, hltK.out, by rw [← hsn.out, hccH.out] <;> rfl, hB3H.out⟩
                case measure => have := hltK.out; simp [intOf]; omega
              · by_cases h4 : r ≤ x.1 4
                · go_wp2
                  go_roundw
                  case rel => exact ⟨k + 1, true, rfl, by go_num, hltK.out, by rw [← hsn.out, hccH.out, decide_eq_true h4] <;> rfl, hB3H.out⟩
                  case measure => have := hltK.out; simp [intOf]; omega
                · go_wp2
                  go_roundw
                  case rel => exact ⟨k + 1, false, rfl, by go_num, hltK.out, by rw [← hsn.out, hccH.out, decide_eq_false h4] <;> rfl, hB3H.out⟩
                  case measure => have := hltK.out; simp [intOf]; omega
          · go_wp2
            go_roundw
            case rel => exact ⟨k + 1, true, rfl, by go_num, hltK.out, by rw [← hsn.out, hccH.out] <;> rfl, hB3H.out⟩
            case measure => have := hltK.out; simp [intOf]; omega
        · obtain rfl : nl = k := by omega
          have hfull : LL.take nl = LL := List.take_of_length_le (by rw [hLLH.out, List.length_map, ← hnlH.out]; exact Nat.le_refl _)
          have hbq := hQ.out.1
          rw [hfull] at hbq
          have hstep := hide (show RW.rah LL hh r (j + 1) = z + if b = true then 1 else 0 by rw [RW.rah, ← hbq, hzH.out])
          have hBq := hide hQ.out.2
          have hz8 : z ≤ 7 := by have := hra.out; have := hltH.out; omega
          clear hbq hfull hR hQ hlt
          cases b
          · go_wp2
            go_roundw
            case rel => exact ⟨j + 1, by go_num, hltH.out, by rw [hstep.out]; rfl, hBq.out⟩
            case measure => have := hltH.out; simp [intOf]; omega
          · go_wp2
            go_roundw
            case rel => exact ⟨j + 1, by go_num, hltH.out, by rw [hstep.out]; go_num, hBq.out⟩
            case measure => have := hltH.out; simp [intOf]; omega
    · obtain rfl : N = j := by omega
      have hNN : ¬ (N : Int) < N := by omega
      clear hlt
      go_wp2
      go_ret
      exact ⟨by rw [hzH.out] <;> rfl, hB.out⟩
end Go.Proofs.YtcbckcojebanaaaDoor

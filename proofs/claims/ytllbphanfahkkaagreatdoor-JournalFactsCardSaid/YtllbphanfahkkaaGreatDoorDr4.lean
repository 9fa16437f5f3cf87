/-
  Package digest: Root: what it returns; only new memory is written.
-/
import Derived.Test.YtllbphanfahkkaaGreatDoorDr3
namespace Go.Proofs.YtllbphanfahkkaaGreatDoor
open Go.RowKit Go.Shelf RG
theorem wrap_succD (n q : Nat) (h : q = n) (hb : q + 1 ≤ 1000001) : wrap64 ((n : Int) + 1) = ((q + 1 : Nat) : Int) := by
  subst h
  rw [IntWalk.wrap64_in _ ⟨by omega, by omega⟩]
  omega
theorem sum_dblD (a b c d : Nat) (h : a + (b + c) = d) (h2 : b = a) : 2 * a + c = d := by omega
theorem toNat_ltD (q k : Nat) (h : q + 1 < k) : (intOf (.int .i64 ((q + 1 : Nat) : Int))).toNat < (intOf (.int .i64 (k : Int))).toNat := by
  simp only [intOf]
  omega
attribute [local go_sem] Oper.semAt_some
set_option maxRecDepth 100000 in
set_option maxHeartbeats 16000000 in
theorem droot_any (K : Nat → Int) (ks : Array Value) (hks : RW.WsOk ks K) (v : Value) (l : List ByteArray) (hl : l.length ≤ 1000000) (hls : ∀ s ∈ l, s.size ≤ 1000000) (w : World) (hv : StrR w v l) (hK : KLaid w ks) :
    Calls Tryz.prog 132 #[v] w fun e w' => e = .returned (.string (RW.rootB K l)) ∧ Below w.heap.size w w' := by
  obtain ⟨va, vc, rfl, _, _⟩ := id hv
  have hvA := hide hv
  have hK0 := hide (fun W (hW : Below w.heap.size w W) => RW.klaid hK hW)
  have hLf := hide (fun s (hs : s.size ≤ 1000000) W (hW : KLaid W ks) => leaf_any s (by omega) K ks hks W hW)
  have hNd := hide (fun a b (ha : a.size = 32) (hb : b.size = 32) W (hW : KLaid W ks) => node_any a b (by omega) K ks hks W hW)
  have hSm := hide (fun W (hW : KLaid W ks) => sum_any (⟨#[]⟩ : ByteArray) (by decide) K ks hks W hW)
  have hlsH := hide hls
  obtain ⟨m, hm⟩ : ∃ m, m = l.length := ⟨_, rfl⟩
  have hmH := hide hm
  obtain ⟨B, hB⟩ : ∃ B, B = w.heap.size := ⟨_, rfl⟩
  have hBH := hide hB
  obtain ⟨R, hR⟩ : ∃ R, R = RW.rootB K l := ⟨_, rfl⟩
  have hRH := hide hR
  rw [← hm] at hl ⊢
  rw [← hB] at hK0 ⊢
  rw [← hR]
  clear hv hK hls hm hB hR
  refine (callsIn_wide (n := 5)).1 ?_
  refine callsIn_of_wp_marks Tryz.func132 rfl trivial ?_ rfl
  refine wpIn_wide.2 ?_
  simp only [Tryz.ntmps132, List.size_toArray, List.length_cons, List.length_nil, Nat.reduceAdd, Nat.reduceSub, Array.replicate_succ, Array.replicate_zero, List.push_toArray, List.append_toArray, List.nil_append, List.cons_append]
  go_wp2
  go_loopw [3, 4, 13] (fun u3 u4 i wr => ∃ (j n : Nat) (a3 a4 : Option Addr) (c3 c4 : Nat), i = .int .i64 j ∧ j ≤ m ∧ u3 = .slice a3 n c3 ∧ u4 = .slice a4 n c4 ∧ Hid (n = (RW.stk K (l.take j)).length ∧ RtS B (.slice a3 n c3) (RW.wholes (RW.stk K (l.take j))) (.slice a4 n c4) (RW.sizesN (RW.stk K (l.take j))) w wr)) (fun _ _ i _ => m - (intOf i).toNat)
  case atStart => exact ⟨0, 0, none, none, 0, 0, rfl, Nat.zero_le _, rfl, rfl, ⟨rfl, ⟨⟨rfl, .inl ⟨rfl, rfl⟩⟩, ⟨rfl, .inl ⟨rfl, rfl⟩⟩, Below.refl _ _, Nat.le_of_eq hBH.out⟩⟩⟩
  case round =>
    obtain ⟨j, n, a3, a4, c3, c4, rfl, hj, rfl, rfl, hQ⟩ := hrel
    obtain ⟨wo, hwo⟩ : ∃ wo, wo = wr := ⟨_, rfl⟩
    subst hwo
    have hn := hide hQ.out.1
    have hS := hide hQ.out.2
    clear hQ
    by_cases hjm : j < m
    · obtain ⟨s, hs⟩ : ∃ s, l[j]? = some s := ⟨_, List.getElem?_eq_getElem (by rw [← hmH.out]; exact hjm)⟩
      obtain ⟨g0, o0, vc', e', hcell⟩ := strR_cell (W' := wo) hvA.out hs
      cases e'
      have hcellH := hide hcell
      have hc := hcellH.out wo (hBH.out ▸ hS.out.bel : Below w.heap.size w wo)
      have hss := hide (hlsH.out s (List.mem_of_getElem? hs))
      have hst := hide (RW.stk_ok K (l.take j))
      have hjn := hide (show n ≤ j by
        have h1 := RW.len_sum _ hst.out.2
        rw [hst.out.1, List.length_take] at h1
        have := hn.out
        omega)
      have hsn := hide (show RW.stk K (l.take (j + 1)) = RW.mrg K (RW.leafB K s, 1) (RW.stk K (l.take j)) by rw [RW.take_snocB hs, RW.stk_snoc])
      obtain ⟨T, hT⟩ : ∃ T, T = RW.stk K (l.take j) := ⟨_, rfl⟩
      rw [← hT] at hn hS hst hsn
      obtain ⟨LF, hLF⟩ : ∃ x, x = RW.leafB K s := ⟨_, rfl⟩
      have hLFs := hide (show LF.size = 32 by rw [hLF]; exact RW.leafB_size _ _)
      have hLf1 := hide (hLf.out s hss.out wo (hK0.out wo hS.out.bel))
      rw [← hLF] at hsn hLf1
      have hjle := hide (show T.length ≤ 1000000 by have := hn.out; have := hjn.out; omega)
      have hlw : (RW.wholes T).length = n := by rw [RW.wholes_len]; exact hn.out.symm
      have hlz : (RW.sizesN T).length = n := by rw [RW.sizesN_len]; exact hn.out.symm
      have hlwH := hide hlw
      have hlzH := hide hlz
      clear hs hcell hT hLF hlw hlz
      go_upto_region 7 with (first
        | (go_at_call 150; refine hLf1.out.mono ?_; rintro e w5 ⟨rfl, h5⟩; have hS5 := hide (hS.out.next h5); clear h5; obtain ⟨a3', c3', w6, hr3, hS6⟩ := hS5.out.app3 (by have := hlwH.out; have := hjn.out; omega) LF; obtain ⟨a4', c4', w7, hr4, hS7⟩ := hS6.app4 (by have := hlzH.out; have := hjn.out; omega) 1; rw [hlwH.out] at hr3; rw [hlzH.out] at hr4; rw [hlwH.out, hlzH.out] at hS7; have hS7 := hide hS7; clear hS6)
        | (at_builtin; refine wpList_app_run rfl _ _ rfl rfl rfl hr3 ?_)
        | (at_builtin; refine wpList_app_run rfl _ _ rfl rfl rfl hr4 ?_))
      clear hr3 hr4 hS hS5 hLf1
      obtain ⟨n1, hn1⟩ : ∃ n1, n1 = n + 1 := ⟨_, rfl⟩
      rw [← hn1] at hS7 ⊢
      have hn1H := hide hn1
      have hn1b : n1 ≤ 1000001 := by have := hjn.out; omega
      clear hn1
      have hfin := hide (RW.stk_ok K (l.take (j + 1)))
      obtain ⟨F, hF⟩ : ∃ F, F = RW.stk K (l.take (j + 1)) := ⟨_, rfl⟩
      rw [← hF] at hsn hfin
      have hFH := hide hF
      clear hF
      have hfl := hide (show RW.sumS F ≤ 1000000 by rw [hfin.out.1, List.length_take]; omega)
      have hsum := hide (show RW.sumS ((LF, 1) :: T) = j + 1 by rw [RW.sumS_cons, hst.out.1, List.length_take]; show 1 + min j l.length = _; have := hmH.out; omega)
      go_wp2
      go_loopw [3, 4, 7] (fun u3 u4 i wr => ∃ (k : Nat) (a3 a4 : Option Addr) (c3 c4 : Nat), i = .int .i64 (k : Int) ∧ u3 = .slice a3 k c3 ∧ u4 = .slice a4 k c4 ∧ k ≤ 1000001 ∧ Hid (∃ (x : ByteArray × Nat) (st : List (ByteArray × Nat)), k = st.length + 1 ∧ RtS B (.slice a3 k c3) (RW.wholes (x :: st)) (.slice a4 k c4) (RW.sizesN (x :: st)) w wr ∧ RW.StOk (x :: st) ∧ RW.sumS (x :: st) = j + 1 ∧ RW.mrg K x st = F)) (fun _ _ i _ => (intOf i).toNat)
      case atStart => exact ⟨n1, a3', a4', c3', c4', rfl, rfl, rfl, hn1b, ⟨(LF, 1), T, by rw [hn1H.out, hn.out], by rw [RW.wholes_cons, RW.sizesN_cons]; exact hS7.out, fun z hz => (List.mem_cons.1 hz).elim (fun e => by rw [e]; exact ⟨hLFs.out, Nat.le_refl _⟩) (hst.out.2 z), hsum.out, hsn.out.symm⟩⟩
      case round =>
        obtain ⟨k, b3, b4, d3, d4, rfl, rfl, rfl, hk, x, st, hks0, hRt, hok, hsm, hmg⟩ := hrel
        obtain ⟨wi, hwi⟩ : ∃ wo, wo = wr := ⟨_, rfl⟩
        subst hwi
        have hRt := hide hRt
        have hok := hide hok
        have hsm := hide hsm
        have hmg := hide hmg
        have hks0 := hide hks0
        clear hS7
        have hxs := hide (show x.2 ≤ 1000000 by have h1 := hsm.out; rw [RW.sumS_cons] at h1; omega)
        go_upto_region 8 with fail
        cases st with
        | nil =>
          have hk1 := hide (show k = 1 from hks0.out)
          refine wp_region_k (fun _ W => Below wi.heap.size wi W) (fun _ => True) [] (.op 0 (.op 1 (.op 2 (.op 3 (.op 4 (.op 5 (.op 6 (.op 7 (.op 8 (.op 9 (.op 10 (.op 11 (.op 12 (.op 13 (.op 14 .nil))))))))))))))) (by kernel_rfl) (by kernel_rfl) (by rfl) (by kernel_rfl) (Below.refl _ wi).drew trivial ?_
          refine k_val (.int .i64 (k : Int)) (by apply opN; repeat' (first | apply OpAt.z | apply OpAt.s)) (by rfl) (by rfl) (fun _ W hS => op_mv rfl rfl) ?_
          simp only [Act.put, List.setIfInBounds_toArray, List.set_cons_zero, List.set_cons_succ]
          refine k_val (.bool false) (by apply opN; repeat' (first | apply OpAt.z | apply OpAt.s)) (by rfl) (by rfl) (fun _ W hS => op_gtD rfl rfl rfl (by rw [hk1.out]; rfl)) ?_
          simp only [Act.put, List.setIfInBounds_toArray, List.set_cons_zero, List.set_cons_succ]
          refine k_val (.bool false) (by apply opN; repeat' (first | apply OpAt.z | apply OpAt.s)) (by rfl) (by rfl) (fun _ W hS => op_mv rfl rfl) ?_
          simp only [Act.put, List.setIfInBounds_toArray, List.set_cons_zero, List.set_cons_succ]
          refine k_skip (by apply opN; repeat' (first | apply OpAt.z | apply OpAt.s)) (by rfl) (by rfl) ?_
          simp only [Act.put, List.setIfInBounds_toArray, List.set_cons_zero, List.set_cons_succ]
          refine k_skip (by apply opN; repeat' (first | apply OpAt.z | apply OpAt.s)) (by rfl) (by rfl) ?_
          simp only [Act.put, List.setIfInBounds_toArray, List.set_cons_zero, List.set_cons_succ]
          refine k_skip (by apply opN; repeat' (first | apply OpAt.z | apply OpAt.s)) (by rfl) (by rfl) ?_
          simp only [Act.put, List.setIfInBounds_toArray, List.set_cons_zero, List.set_cons_succ]
          refine k_skip (by apply opN; repeat' (first | apply OpAt.z | apply OpAt.s)) (by rfl) (by rfl) ?_
          simp only [Act.put, List.setIfInBounds_toArray, List.set_cons_zero, List.set_cons_succ]
          refine k_skip (by apply opN; repeat' (first | apply OpAt.z | apply OpAt.s)) (by rfl) (by rfl) ?_
          simp only [Act.put, List.setIfInBounds_toArray, List.set_cons_zero, List.set_cons_succ]
          refine k_skip (by apply opN; repeat' (first | apply OpAt.z | apply OpAt.s)) (by rfl) (by rfl) ?_
          simp only [Act.put, List.setIfInBounds_toArray, List.set_cons_zero, List.set_cons_succ]
          refine k_skip (by apply opN; repeat' (first | apply OpAt.z | apply OpAt.s)) (by rfl) (by rfl) ?_
          simp only [Act.put, List.setIfInBounds_toArray, List.set_cons_zero, List.set_cons_succ]
          refine k_skip (by apply opN; repeat' (first | apply OpAt.z | apply OpAt.s)) (by rfl) (by rfl) ?_
          simp only [Act.put, List.setIfInBounds_toArray, List.set_cons_zero, List.set_cons_succ]
          refine k_skip (by apply opN; repeat' (first | apply OpAt.z | apply OpAt.s)) (by rfl) (by rfl) ?_
          simp only [Act.put, List.setIfInBounds_toArray, List.set_cons_zero, List.set_cons_succ]
          refine k_skip (by apply opN; repeat' (first | apply OpAt.z | apply OpAt.s)) (by rfl) (by rfl) ?_
          simp only [Act.put, List.setIfInBounds_toArray, List.set_cons_zero, List.set_cons_succ]
          refine k_skip (by apply opN; repeat' (first | apply OpAt.z | apply OpAt.s)) (by rfl) (by rfl) ?_
          simp only [Act.put, List.setIfInBounds_toArray, List.set_cons_zero, List.set_cons_succ]
          refine k_val (.bool false) (by apply opN; repeat' (first | apply OpAt.z | apply OpAt.s)) (by rfl) (by rfl) (fun _ W hS => op_pk rfl rfl rfl rfl rfl) ?_
          simp only [Act.put, List.setIfInBounds_toArray, List.set_cons_zero, List.set_cons_succ]
          refine k_nil ?_
          intro W' hCW _
          have hRt2 := hide (hRt.out.next hCW)
          clear hCW hRt
          clear hk
          go_wp2
          go_roundw
          case rel => exact ⟨j + 1, k, b3, b4, d3, d4, by go_num, by omega, rfl, rfl, ⟨by rw [← hFH.out, hks0.out, ← hmg.out]; rfl, by rw [← hFH.out, ← hmg.out]; exact hRt2.out⟩⟩
          case measure => simp [intOf]; omega
        | cons y st =>
          obtain ⟨q, hq⟩ : ∃ q, q = st.length := ⟨_, rfl⟩
          have hkq : k = q + 2 := by rw [hks0.out, hq]; rfl
          have hqH := hide hq
          have hl3 := hide (show (RW.wholes (x :: y :: st)).length = k by rw [RW.wholes_len]; exact hks0.out.symm)
          have hl4 := hide (show (RW.sizesN (x :: y :: st)).length = k by rw [RW.sizesN_len]; exact hks0.out.symm)
          obtain ⟨g4, e4, hy4, hqd4⟩ := own_cell1 hRt.out.siz (show ((RW.sizesN (x :: y :: st)).map fun n : Nat => Value.int .i64 (n : Int))[q]? = some (.int .i64 (y.2 : Int)) by rw [List.getElem?_map, hq, RW.sizesN_two]; rfl)
          subst e4
          obtain ⟨g4', e4, hx4, _⟩ := own_cell1 hRt.out.siz (show ((RW.sizesN (x :: y :: st)).map fun n : Nat => Value.int .i64 (n : Int))[q + 1]? = some (.int .i64 (x.2 : Int)) by rw [List.getElem?_map, hq, show st.length + 1 = (y :: st).length from rfl, RW.sizesN_last]; rfl)
          cases e4
          obtain ⟨g3, e3, hy3, hqd3⟩ := own_cell1 hRt.out.who (show ((RW.wholes (x :: y :: st)).map Value.string)[q]? = some (.string y.1) by rw [List.getElem?_map, hq, RW.wholes_two]; rfl)
          subst e3
          obtain ⟨g3', e3, hx3, _⟩ := own_cell1 hRt.out.who (show ((RW.wholes (x :: y :: st)).map Value.string)[q + 1]? = some (.string x.1) by rw [List.getElem?_map, hq, show st.length + 1 = (y :: st).length from rfl, RW.wholes_last]; rfl)
          cases e3
          rw [hl4.out] at hqd4
          rw [hl3.out] at hqd3
          have hy4 := hide hy4
          have hx4 := hide hx4
          have hy3 := hide hy3
          have hx3 := hide hx3
          have hqb : q + 1 ≤ 1000001 := by omega
          have hqk : q < k := by omega
          have hqk1 : q + 1 < k := by omega
          have hk2 : (k : Int) - 2 = (q : Int) := by omega
          have hk3 : (k : Int) - 1 = ((q + 1 : Nat) : Int) := by omega
          have hkg : decide ((1 : Int) < (k : Int)) = true := decide_eq_true (by omega)
          have hbq : -9223372036854775808 ≤ (q : Int) ∧ (q : Int) ≤ 9223372036854775807 := by omega
          have hbq1 : -9223372036854775808 ≤ ((q + 1 : Nat) : Int) ∧ ((q + 1 : Nat) : Int) ≤ 9223372036854775807 := by omega
          have hk2H := hide hk2
          have hk3H := hide hk3
          have hkqH := hide hkq
          clear hq hk2 hk3 hkq
          by_cases hxy : y.2 = x.2
          · have hde : decide ((y.2 : Int) = (x.2 : Int)) = true := decide_eq_true (by omega)
            have hxyH := hide hxy
            clear hxy
            refine wp_region_k (fun _ W => Below wi.heap.size wi W) (fun _ => True) [] (.op 0 (.op 1 (.op 2 (.op 3 (.op 4 (.op 5 (.op 6 (.op 7 (.op 8 (.op 9 (.op 10 (.op 11 (.op 12 (.op 13 (.op 14 .nil))))))))))))))) (by kernel_rfl) (by kernel_rfl) (by rfl) (by kernel_rfl) (Below.refl _ wi).drew trivial ?_
            refine k_val (.int .i64 (k : Int)) (by apply opN; repeat' (first | apply OpAt.z | apply OpAt.s)) (by rfl) (by rfl) (fun _ W hS => op_mv rfl rfl) ?_
            simp only [Act.put, List.setIfInBounds_toArray, List.set_cons_zero, List.set_cons_succ]
            refine k_val (.bool true) (by apply opN; repeat' (first | apply OpAt.z | apply OpAt.s)) (by rfl) (by rfl) (fun _ W hS => op_gtD rfl rfl rfl hkg) ?_
            simp only [Act.put, List.setIfInBounds_toArray, List.set_cons_zero, List.set_cons_succ]
            refine k_val (.bool true) (by apply opN; repeat' (first | apply OpAt.z | apply OpAt.s)) (by rfl) (by rfl) (fun _ W hS => op_mv rfl rfl) ?_
            simp only [Act.put, List.setIfInBounds_toArray, List.set_cons_zero, List.set_cons_succ]
            refine k_val (.slice (some ⟨g4, 0, none⟩) k d4) (by apply opN; repeat' (first | apply OpAt.z | apply OpAt.s)) (by rfl) (by rfl) (fun _ W hS => op_mv rfl rfl) ?_
            simp only [Act.put, List.setIfInBounds_toArray, List.set_cons_zero, List.set_cons_succ]
            refine k_val (.int .i64 (k : Int)) (by apply opN; repeat' (first | apply OpAt.z | apply OpAt.s)) (by rfl) (by rfl) (fun _ W hS => op_mv rfl rfl) ?_
            simp only [Act.put, List.setIfInBounds_toArray, List.set_cons_zero, List.set_cons_succ]
            refine k_val (.int .i64 (q : Int)) (by apply opN; repeat' (first | apply OpAt.z | apply OpAt.s)) (by rfl) (by rfl) (fun _ W hS => op_subD rfl rfl rfl hk2H.out hbq) ?_
            simp only [Act.put, List.setIfInBounds_toArray, List.set_cons_zero, List.set_cons_succ]
            refine k_val (.pointer (some ⟨g4, 0 + q, none⟩)) (by apply opN; repeat' (first | apply OpAt.z | apply OpAt.s)) (by rfl) (by rfl) (fun _ W hS => op_idx_iD rfl rfl rfl hqk) ?_
            simp only [Act.put, List.setIfInBounds_toArray, List.set_cons_zero, List.set_cons_succ]
            refine k_val (.int .i64 (y.2 : Int)) (by apply opN; repeat' (first | apply OpAt.z | apply OpAt.s)) (by rfl) (by rfl) (fun _ W hS => op_ld rfl rfl (int_ldD (cells_nextD hy4.out rfl hS))) ?_
            simp only [Act.put, List.setIfInBounds_toArray, List.set_cons_zero, List.set_cons_succ]
            refine k_val (.slice (some ⟨g4, 0, none⟩) k d4) (by apply opN; repeat' (first | apply OpAt.z | apply OpAt.s)) (by rfl) (by rfl) (fun _ W hS => op_mv rfl rfl) ?_
            simp only [Act.put, List.setIfInBounds_toArray, List.set_cons_zero, List.set_cons_succ]
            refine k_val (.int .i64 (k : Int)) (by apply opN; repeat' (first | apply OpAt.z | apply OpAt.s)) (by rfl) (by rfl) (fun _ W hS => op_mv rfl rfl) ?_
            simp only [Act.put, List.setIfInBounds_toArray, List.set_cons_zero, List.set_cons_succ]
            refine k_val (.int .i64 ((q + 1 : Nat) : Int)) (by apply opN; repeat' (first | apply OpAt.z | apply OpAt.s)) (by rfl) (by rfl) (fun _ W hS => op_subD rfl rfl rfl hk3H.out hbq1) ?_
            simp only [Act.put, List.setIfInBounds_toArray, List.set_cons_zero, List.set_cons_succ]
            refine k_val (.pointer (some ⟨g4, 0 + (q + 1), none⟩)) (by apply opN; repeat' (first | apply OpAt.z | apply OpAt.s)) (by rfl) (by rfl) (fun _ W hS => op_idx_iD rfl rfl rfl hqk1) ?_
            simp only [Act.put, List.setIfInBounds_toArray, List.set_cons_zero, List.set_cons_succ]
            refine k_val (.int .i64 (x.2 : Int)) (by apply opN; repeat' (first | apply OpAt.z | apply OpAt.s)) (by rfl) (by rfl) (fun _ W hS => op_ld rfl rfl (int_ldD (cells_nextD hx4.out rfl hS))) ?_
            simp only [Act.put, List.setIfInBounds_toArray, List.set_cons_zero, List.set_cons_succ]
            refine k_val (.bool true) (by apply opN; repeat' (first | apply OpAt.z | apply OpAt.s)) (by rfl) (by rfl) (fun _ W hS => op_eqD rfl rfl rfl hde) ?_
            simp only [Act.put, List.setIfInBounds_toArray, List.set_cons_zero, List.set_cons_succ]
            refine k_val (.bool true) (by apply opN; repeat' (first | apply OpAt.z | apply OpAt.s)) (by rfl) (by rfl) (fun _ W hS => op_pk rfl rfl rfl rfl rfl) ?_
            simp only [Act.put, List.setIfInBounds_toArray, List.set_cons_zero, List.set_cons_succ]
            refine k_nil ?_
            intro W' hCW _
            have hRt2 := hide (hRt.out.next hCW)
            have hBw := hide hCW
            clear hCW hRt
            go_upto_region 10 with fail
            refine gen_w (fun W => RtS B (.slice (some ⟨g3, 0, none⟩) k d3) (RW.wholes (x :: y :: st)) (.slice (some ⟨g4, 0, none⟩) k d4) (RW.sizesN (x :: y :: st)) w W ∧ Below wi.heap.size wi W) ⟨hRt2.out, hBw.out⟩ ?_
            rintro w10 ⟨g1, g2⟩
            have hR10 := hide g1
            have hB10 := hide g2
            clear g1 g2 hRt2 hBw
            obtain ⟨ND, hND⟩ : ∃ N, N = RW.nodeB K y.1 x.1 := ⟨_, rfl⟩
            have hNDH := hide hND
            have hNds := hide (show ND.size = 32 by rw [hND]; exact RW.nodeB_size _ _ _)
            have hNd1 := hide (hNd.out y.1 x.1 (hok.out y (by simp)).1 (hok.out x (by simp)).1)
            rw [← hND] at hNd1
            clear hND
            have hcu3 := hide (fun (W : World) (h : RtS B (.slice (some ⟨g3, 0, none⟩) k d3) (RW.wholes (x :: y :: st)) (.slice (some ⟨g4, 0, none⟩) k d4) (RW.sizesN (x :: y :: st)) w W) => (show ∃ a' c' W', (Builtin.append_ #[22, 22] 22 #[.slice (some ⟨g3, 0, none⟩) q d3, .slice (some ⟨W.heap.size, 0, none⟩) 1 1]).run Tryz.prog (W.alloc (.cells #[.string ND] 9)) = .ok (.slice a' (q + 1) c') W' ∧ RtS B (.slice a' (q + 1) c') (RW.wholes ((ND, 2 * x.2) :: st)) (.slice (some ⟨g4, 0, none⟩) k d4) (RW.sizesN (x :: y :: st)) w W' from by
              have hcut := (h.cut3 hl3.out.symm (i := q) (by omega) (by omega)).1
              rw [hqH.out, RW.wholes_cut, ← hqH.out] at hcut
              have hlw : (RW.wholes st).length = q := by rw [RW.wholes_len]; exact hqH.out.symm
              obtain ⟨a', c', W', hr, hS'⟩ := hcut.app3 (by omega) ND
              rw [hlw] at hr hS'
              rw [← RW.wholes_cons (ND, 2 * x.2) st] at hS'
              exact ⟨a', c', W', hr, hS'⟩))
            refine wp_region_k (fun g W => Below B w W ∧ (16 ∉ g → W.cell? ⟨g3, 0 + q, none⟩ = some (.string y.1) ∧ W.cell? ⟨g3, 0 + (q + 1), none⟩ = some (.string x.1))) (fun W => RtS B (.slice (some ⟨g3, 0, none⟩) k d3) (RW.wholes (x :: y :: st)) (.slice (some ⟨g4, 0, none⟩) k d4) (RW.sizesN (x :: y :: st)) w W) [14, 15, 16] (.op 0 (.op 1 (.op 2 (.op 3 (.op 4 (.op 5 (.op 6 (.op 7 (.op 8 (.op 9 (.op 10 (.op 11 (.op 12 (.op 13 (.op 14 (.op 15 (.op 16 (.op 17 .nil)))))))))))))))))) (by kernel_rfl) (by kernel_rfl) (by rfl) (by kernel_rfl) ⟨hR10.out.bel.drew, fun _ => ⟨cells_nextD (cells_nextD hy3.out rfl hB10.out) rfl (Below.refl _ _).drew, cells_nextD (cells_nextD hx3.out rfl hB10.out) rfl (Below.refl _ _).drew⟩⟩ (hR10.out.next (Below.refl _ _).drew) ?_
            refine k_val (.slice (some ⟨g3, 0, none⟩) k d3) (by apply opN; repeat' (first | apply OpAt.z | apply OpAt.s)) (by rfl) (by rfl) (fun _ W hS => op_mv rfl rfl) ?_
            simp only [Act.put, List.setIfInBounds_toArray, List.set_cons_zero, List.set_cons_succ]
            refine k_val (.int .i64 (k : Int)) (by apply opN; repeat' (first | apply OpAt.z | apply OpAt.s)) (by rfl) (by rfl) (fun _ W hS => op_mv rfl rfl) ?_
            simp only [Act.put, List.setIfInBounds_toArray, List.set_cons_zero, List.set_cons_succ]
            refine k_val (.int .i64 (q : Int)) (by apply opN; repeat' (first | apply OpAt.z | apply OpAt.s)) (by rfl) (by rfl) (fun _ W hS => op_subD rfl rfl rfl hk2H.out hbq) ?_
            simp only [Act.put, List.setIfInBounds_toArray, List.set_cons_zero, List.set_cons_succ]
            refine k_val (.slice (some ⟨g3, 0, none⟩) q d3) (by apply opN; repeat' (first | apply OpAt.z | apply OpAt.s)) (by rfl) (by rfl) (fun _ W hS => op_hi_sD rfl rfl rfl (by omega)) ?_
            simp only [Act.put, List.setIfInBounds_toArray, List.set_cons_zero, List.set_cons_succ]
            refine k_val (.slice (some ⟨g3, 0, none⟩) k d3) (by apply opN; repeat' (first | apply OpAt.z | apply OpAt.s)) (by rfl) (by rfl) (fun _ W hS => op_mv rfl rfl) ?_
            simp only [Act.put, List.setIfInBounds_toArray, List.set_cons_zero, List.set_cons_succ]
            refine k_val (.int .i64 (k : Int)) (by apply opN; repeat' (first | apply OpAt.z | apply OpAt.s)) (by rfl) (by rfl) (fun _ W hS => op_mv rfl rfl) ?_
            simp only [Act.put, List.setIfInBounds_toArray, List.set_cons_zero, List.set_cons_succ]
            refine k_val (.int .i64 (q : Int)) (by apply opN; repeat' (first | apply OpAt.z | apply OpAt.s)) (by rfl) (by rfl) (fun _ W hS => op_subD rfl rfl rfl hk2H.out hbq) ?_
            simp only [Act.put, List.setIfInBounds_toArray, List.set_cons_zero, List.set_cons_succ]
            refine k_val (.pointer (some ⟨g3, 0 + q, none⟩)) (by apply opN; repeat' (first | apply OpAt.z | apply OpAt.s)) (by rfl) (by rfl) (fun _ W hS => op_idx_s rfl rfl rfl hqk) ?_
            simp only [Act.put, List.setIfInBounds_toArray, List.set_cons_zero, List.set_cons_succ]
            refine k_bef 16 (.string y.1) (by apply opN; repeat' (first | apply OpAt.z | apply OpAt.s)) (by rfl) (by rfl) (by decide +kernel) (by rfl) (fun _ W hg hS => op_ld rfl rfl (str_ld (hS.2 hg).1)) ?_
            simp only [Act.put, List.setIfInBounds_toArray, List.set_cons_zero, List.set_cons_succ]
            refine k_val (.slice (some ⟨g3, 0, none⟩) k d3) (by apply opN; repeat' (first | apply OpAt.z | apply OpAt.s)) (by rfl) (by rfl) (fun _ W hS => op_mv rfl rfl) ?_
            simp only [Act.put, List.setIfInBounds_toArray, List.set_cons_zero, List.set_cons_succ]
            refine k_val (.int .i64 (k : Int)) (by apply opN; repeat' (first | apply OpAt.z | apply OpAt.s)) (by rfl) (by rfl) (fun _ W hS => op_mv rfl rfl) ?_
            simp only [Act.put, List.setIfInBounds_toArray, List.set_cons_zero, List.set_cons_succ]
            refine k_val (.int .i64 ((q + 1 : Nat) : Int)) (by apply opN; repeat' (first | apply OpAt.z | apply OpAt.s)) (by rfl) (by rfl) (fun _ W hS => op_subD rfl rfl rfl hk3H.out hbq1) ?_
            simp only [Act.put, List.setIfInBounds_toArray, List.set_cons_zero, List.set_cons_succ]
            refine k_val (.pointer (some ⟨g3, 0 + (q + 1), none⟩)) (by apply opN; repeat' (first | apply OpAt.z | apply OpAt.s)) (by rfl) (by rfl) (fun _ W hS => op_idx_s rfl rfl rfl hqk1) ?_
            simp only [Act.put, List.setIfInBounds_toArray, List.set_cons_zero, List.set_cons_succ]
            refine k_bef 16 (.string x.1) (by apply opN; repeat' (first | apply OpAt.z | apply OpAt.s)) (by rfl) (by rfl) (by decide +kernel) (by rfl) (fun _ W hg hS => op_ld rfl rfl (str_ld (hS.2 hg).2)) ?_
            simp only [Act.put, List.setIfInBounds_toArray, List.set_cons_zero, List.set_cons_succ]
            refine k_step (fun K' u => u = .string ND ∧ K' = fun W => RtS B (.slice (some ⟨g3, 0, none⟩) k d3) (RW.wholes (x :: y :: st)) (.slice (some ⟨g4, 0, none⟩) k d4) (RW.sizesN (x :: y :: st)) w W) (by apply opN; repeat' (first | apply OpAt.z | apply OpAt.s)) (by rfl) (by rfl) (by rfl) (fun W hC hK => ?_) ?_
            · refine op_x2 (n := .string y.1) (m := .string x.1) rfl rfl rfl rfl cf_node ?_
              refine (hNd1.out W (hK0.out W hC.1)).mono ?_
              rintro e w' ⟨rfl, h4⟩
              have hn := hK.next h4
              exact ⟨_, rfl, ⟨hn.bel, fun _ => ⟨cells_nextD (hC.2 (by decide)).1 rfl h4, cells_nextD (hC.2 (by decide)).2 rfl h4⟩⟩, _, hn, rfl, rfl⟩
            rintro _ _ ⟨rfl, rfl⟩
            simp only [Act.put, List.setIfInBounds_toArray, List.set_cons_zero, List.set_cons_succ]
            refine k_step (fun K' u => ∃ b, u = .slice (some ⟨b, 0, none⟩) 1 1 ∧ K' = fun W => ∃ W0, RtS B (.slice (some ⟨g3, 0, none⟩) k d3) (RW.wholes (x :: y :: st)) (.slice (some ⟨g4, 0, none⟩) k d4) (RW.sizesN (x :: y :: st)) w W0 ∧ W0.heap.size = b ∧ W = W0.alloc (.cells #[.string ND] 9)) (by apply opN; repeat' (first | apply OpAt.z | apply OpAt.s)) (by rfl) (by rfl) (by rfl) (fun W hC hK => ?_) ?_
            · have hA := alloc_bel (Below.refl W.heap.size W) (Nat.le_refl _) (.cells #[.string ND] 9)
              exact xup_val (op_bs1D rfl rfl) ⟨⟨hC.1.trans (hA.mono hK.size), fun _ => ⟨cells_nextD (hC.2 (by decide)).1 rfl hA, cells_nextD (hC.2 (by decide)).2 rfl hA⟩⟩, _, ⟨W, hK, rfl, rfl⟩, W.heap.size, rfl, rfl⟩
            rintro _ _ ⟨b15, rfl, rfl⟩
            simp only [Act.put, List.setIfInBounds_toArray, List.set_cons_zero, List.set_cons_succ]
            refine k_step (fun K' u => ∃ a' c', u = .slice a' (q + 1) c' ∧ K' = fun W => RtS B (.slice a' (q + 1) c') (RW.wholes ((ND, 2 * x.2) :: st)) (.slice (some ⟨g4, 0, none⟩) k d4) (RW.sizesN (x :: y :: st)) w W) (by apply opN; repeat' (first | apply OpAt.z | apply OpAt.s)) (by rfl) (by rfl) (by rfl) (fun W hC hK => ?_) ?_
            · obtain ⟨W0, hk0, hb0, rfl⟩ := hK
              obtain ⟨a', c', W', hr, hS'⟩ := hcu3.out W0 hk0
              rw [hb0] at hr
              exact xup_val (op_app rfl rfl rfl hr) ⟨⟨hS'.bel, fun h => absurd (by decide) h⟩, _, hS', a', c', rfl, rfl⟩
            rintro _ _ ⟨a5, c5, rfl, rfl⟩
            simp only [Act.put, List.setIfInBounds_toArray, List.set_cons_zero, List.set_cons_succ]
            refine k_val (.slice a5 (q + 1) c5) (by apply opN; repeat' (first | apply OpAt.z | apply OpAt.s)) (by rfl) (by rfl) (fun _ W hS => op_asg rfl rfl) ?_
            simp only [Act.put, List.setIfInBounds_toArray, List.set_cons_zero, List.set_cons_succ]
            refine k_nil ?_
            intro W' _ hK'
            have hK16 := hide hK'
            clear hK'
            go_upto_region 11 with fail
            refine gen_w (fun W => RtS B (.slice a5 (q + 1) c5) (RW.wholes ((ND, 2 * x.2) :: st)) (.slice (some ⟨g4, 0, none⟩) k d4) (RW.sizesN (x :: y :: st)) w W) hK16.out ?_
            intro w11 hR11
            have hx11 := hide (show w11.cell? ⟨g4, 0 + (q + 1), none⟩ = some (.int .i64 (x.2 : Int)) by
              obtain ⟨g, e, h1, _⟩ := own_cell1 hR11.siz (show ((RW.sizesN (x :: y :: st)).map fun n : Nat => Value.int .i64 (n : Int))[q + 1]? = some (.int .i64 (x.2 : Int)) by rw [List.getElem?_map, hqH.out, show st.length + 1 = (y :: st).length from rfl, RW.sizesN_last]; rfl)
              cases e
              exact h1)
            have hR11 := hide hR11
            clear hK16 hcu3 hR10
            have hcu4 := hide (fun (W : World) (h : RtS B (.slice a5 (q + 1) c5) (RW.wholes ((ND, 2 * x.2) :: st)) (.slice (some ⟨g4, 0, none⟩) k d4) (RW.sizesN (x :: y :: st)) w W) => (show ∃ a' c' W', (Builtin.append_ #[56, 56] 56 #[.slice (some ⟨g4, 0, none⟩) q d4, .slice (some ⟨W.heap.size, 0, none⟩) 1 1]).run Tryz.prog (W.alloc (.cells #[.int .i64 ((2 * x.2 : Nat) : Int)] 3)) = .ok (.slice a' (q + 1) c') W' ∧ RtS B (.slice a5 (q + 1) c5) (RW.wholes ((ND, 2 * x.2) :: st)) (.slice a' (q + 1) c') (RW.sizesN ((ND, 2 * x.2) :: st)) w W' from by
              have hcut := (h.cut4 hl4.out.symm (i := q) (by omega) (by omega)).1
              rw [hqH.out, RW.sizesN_cut, ← hqH.out] at hcut
              have hlw : (RW.sizesN st).length = q := by rw [RW.sizesN_len]; exact hqH.out.symm
              obtain ⟨a', c', W', hr, hS'⟩ := hcut.app4 (by omega) (2 * x.2)
              rw [hlw] at hr hS'
              rw [← RW.sizesN_cons (ND, 2 * x.2) st] at hS'
              exact ⟨a', c', W', hr, hS'⟩))
            refine wp_region_k (fun g W => Below B w W ∧ (11 ∉ g → W.cell? ⟨g4, 0 + (q + 1), none⟩ = some (.int .i64 (x.2 : Int)))) (fun W => RtS B (.slice a5 (q + 1) c5) (RW.wholes ((ND, 2 * x.2) :: st)) (.slice (some ⟨g4, 0, none⟩) k d4) (RW.sizesN (x :: y :: st)) w W) [10, 11] (.op 0 (.op 1 (.op 2 (.op 3 (.op 4 (.op 5 (.op 6 (.op 7 (.op 8 (.op 9 (.op 10 (.op 11 (.op 12 .nil))))))))))))) (by kernel_rfl) (by kernel_rfl) (by rfl) (by kernel_rfl) ⟨hR11.out.bel.drew, fun _ => cells_nextD hx11.out rfl (Below.refl _ _).drew⟩ (hR11.out.next (Below.refl _ _).drew) ?_
            refine k_val (.slice (some ⟨g4, 0, none⟩) k d4) (by apply opN; repeat' (first | apply OpAt.z | apply OpAt.s)) (by rfl) (by rfl) (fun _ W hS => op_mv rfl rfl) ?_
            simp only [Act.put, List.setIfInBounds_toArray, List.set_cons_zero, List.set_cons_succ]
            refine k_val (.int .i64 (k : Int)) (by apply opN; repeat' (first | apply OpAt.z | apply OpAt.s)) (by rfl) (by rfl) (fun _ W hS => op_mv rfl rfl) ?_
            simp only [Act.put, List.setIfInBounds_toArray, List.set_cons_zero, List.set_cons_succ]
            refine k_val (.int .i64 (q : Int)) (by apply opN; repeat' (first | apply OpAt.z | apply OpAt.s)) (by rfl) (by rfl) (fun _ W hS => op_subD rfl rfl rfl hk2H.out hbq) ?_
            simp only [Act.put, List.setIfInBounds_toArray, List.set_cons_zero, List.set_cons_succ]
            refine k_val (.slice (some ⟨g4, 0, none⟩) q d4) (by apply opN; repeat' (first | apply OpAt.z | apply OpAt.s)) (by rfl) (by rfl) (fun _ W hS => op_hi_iD rfl rfl rfl (by omega)) ?_
            simp only [Act.put, List.setIfInBounds_toArray, List.set_cons_zero, List.set_cons_succ]
            refine k_val (.slice (some ⟨g4, 0, none⟩) k d4) (by apply opN; repeat' (first | apply OpAt.z | apply OpAt.s)) (by rfl) (by rfl) (fun _ W hS => op_mv rfl rfl) ?_
            simp only [Act.put, List.setIfInBounds_toArray, List.set_cons_zero, List.set_cons_succ]
            refine k_val (.int .i64 (k : Int)) (by apply opN; repeat' (first | apply OpAt.z | apply OpAt.s)) (by rfl) (by rfl) (fun _ W hS => op_mv rfl rfl) ?_
            simp only [Act.put, List.setIfInBounds_toArray, List.set_cons_zero, List.set_cons_succ]
            refine k_val (.int .i64 ((q + 1 : Nat) : Int)) (by apply opN; repeat' (first | apply OpAt.z | apply OpAt.s)) (by rfl) (by rfl) (fun _ W hS => op_subD rfl rfl rfl hk3H.out hbq1) ?_
            simp only [Act.put, List.setIfInBounds_toArray, List.set_cons_zero, List.set_cons_succ]
            refine k_val (.pointer (some ⟨g4, 0 + (q + 1), none⟩)) (by apply opN; repeat' (first | apply OpAt.z | apply OpAt.s)) (by rfl) (by rfl) (fun _ W hS => op_idx_iD rfl rfl rfl hqk1) ?_
            simp only [Act.put, List.setIfInBounds_toArray, List.set_cons_zero, List.set_cons_succ]
            refine k_bef 11 (.int .i64 (x.2 : Int)) (by apply opN; repeat' (first | apply OpAt.z | apply OpAt.s)) (by rfl) (by rfl) (by decide +kernel) (by rfl) (fun _ W hg hS => op_ld rfl rfl (int_ldD (hS.2 hg))) ?_
            simp only [Act.put, List.setIfInBounds_toArray, List.set_cons_zero, List.set_cons_succ]
            refine k_val (.int .i64 ((2 * x.2 : Nat) : Int)) (by apply opN; repeat' (first | apply OpAt.z | apply OpAt.s)) (by rfl) (by rfl) (fun _ W hS => op_dblD rfl rfl rfl (by omega) (by have := hxs.out; omega)) ?_
            simp only [Act.put, List.setIfInBounds_toArray, List.set_cons_zero, List.set_cons_succ]
            refine k_step (fun K' u => ∃ b, u = .slice (some ⟨b, 0, none⟩) 1 1 ∧ K' = fun W => ∃ W0, RtS B (.slice a5 (q + 1) c5) (RW.wholes ((ND, 2 * x.2) :: st)) (.slice (some ⟨g4, 0, none⟩) k d4) (RW.sizesN (x :: y :: st)) w W0 ∧ W0.heap.size = b ∧ W = W0.alloc (.cells #[.int .i64 ((2 * x.2 : Nat) : Int)] 3)) (by apply opN; repeat' (first | apply OpAt.z | apply OpAt.s)) (by rfl) (by rfl) (by rfl) (fun W hC hK => ?_) ?_
            · have hA := alloc_bel (Below.refl W.heap.size W) (Nat.le_refl _) (.cells #[.int .i64 ((2 * x.2 : Nat) : Int)] 3)
              exact xup_val (op_bsiD rfl rfl) ⟨⟨hC.1.trans (hA.mono hK.size), fun _ => cells_nextD (hC.2 (by decide)) rfl hA⟩, _, ⟨W, hK, rfl, rfl⟩, W.heap.size, rfl, rfl⟩
            rintro _ _ ⟨b15, rfl, rfl⟩
            simp only [Act.put, List.setIfInBounds_toArray, List.set_cons_zero, List.set_cons_succ]
            refine k_step (fun K' u => ∃ a' c', u = .slice a' (q + 1) c' ∧ K' = fun W => RtS B (.slice a5 (q + 1) c5) (RW.wholes ((ND, 2 * x.2) :: st)) (.slice a' (q + 1) c') (RW.sizesN ((ND, 2 * x.2) :: st)) w W) (by apply opN; repeat' (first | apply OpAt.z | apply OpAt.s)) (by rfl) (by rfl) (by rfl) (fun W hC hK => ?_) ?_
            · obtain ⟨W0, hk0, hb0, rfl⟩ := hK
              obtain ⟨a', c', W', hr, hS'⟩ := hcu4.out W0 hk0
              rw [hb0] at hr
              exact xup_val (op_app rfl rfl rfl hr) ⟨⟨hS'.bel, fun h => absurd (by decide) h⟩, _, hS', a', c', rfl, rfl⟩
            rintro _ _ ⟨a6, c6, rfl, rfl⟩
            simp only [Act.put, List.setIfInBounds_toArray, List.set_cons_zero, List.set_cons_succ]
            refine k_val (.slice a6 (q + 1) c6) (by apply opN; repeat' (first | apply OpAt.z | apply OpAt.s)) (by rfl) (by rfl) (fun _ W hS => op_asg rfl rfl) ?_
            simp only [Act.put, List.setIfInBounds_toArray, List.set_cons_zero, List.set_cons_succ]
            refine k_nil ?_
            intro W' _ hK'
            have hK17 := hide hK'
            clear hK'
            have hxq : (k : Int) - 1 = ((q + 1 : Nat) : Int) := hk3H.out
            clear hR11 hcu4 hx11
            go_wp2
            have hql : q = st.length := hqH.out
            have hw64 := wrap_succD st.length q hql hqb
            refine ⟨⟨q + 1, _, _, _, _, by rw [hw64], rfl, rfl, hqb, ⟨(ND, 2 * x.2), st, by rw [hql], hK17.out, fun z hz => ?_, ?_, ?_⟩⟩, ?_⟩
            · rcases List.mem_cons.1 hz with rfl | hz
              · exact ⟨hNds.out, by have := (hok.out x (by simp)).2; show 1 ≤ 2 * x.2; omega⟩
              · exact hok.out z (by simp [hz])
            · have h1 := hsm.out
              have h2 := hxyH.out
              rw [RW.sumS_cons, RW.sumS_cons] at h1
              rw [RW.sumS_cons]
              exact sum_dblD _ _ _ _ h1 h2
            · rw [← hmg.out]
              conv => rhs; unfold RW.mrg
              rw [if_pos hxyH.out, hNDH.out]
            · rw [hw64]
              exact toNat_ltD q k hqk1
          · have hde : decide ((y.2 : Int) = (x.2 : Int)) = false := decide_eq_false (by omega)
            have hxyH := hide hxy
            clear hxy
            refine wp_region_k (fun _ W => Below wi.heap.size wi W) (fun _ => True) [] (.op 0 (.op 1 (.op 2 (.op 3 (.op 4 (.op 5 (.op 6 (.op 7 (.op 8 (.op 9 (.op 10 (.op 11 (.op 12 (.op 13 (.op 14 .nil))))))))))))))) (by kernel_rfl) (by kernel_rfl) (by rfl) (by kernel_rfl) (Below.refl _ wi).drew trivial ?_
            refine k_val (.int .i64 (k : Int)) (by apply opN; repeat' (first | apply OpAt.z | apply OpAt.s)) (by rfl) (by rfl) (fun _ W hS => op_mv rfl rfl) ?_
            simp only [Act.put, List.setIfInBounds_toArray, List.set_cons_zero, List.set_cons_succ]
            refine k_val (.bool true) (by apply opN; repeat' (first | apply OpAt.z | apply OpAt.s)) (by rfl) (by rfl) (fun _ W hS => op_gtD rfl rfl rfl hkg) ?_
            simp only [Act.put, List.setIfInBounds_toArray, List.set_cons_zero, List.set_cons_succ]
            refine k_val (.bool true) (by apply opN; repeat' (first | apply OpAt.z | apply OpAt.s)) (by rfl) (by rfl) (fun _ W hS => op_mv rfl rfl) ?_
            simp only [Act.put, List.setIfInBounds_toArray, List.set_cons_zero, List.set_cons_succ]
            refine k_val (.slice (some ⟨g4, 0, none⟩) k d4) (by apply opN; repeat' (first | apply OpAt.z | apply OpAt.s)) (by rfl) (by rfl) (fun _ W hS => op_mv rfl rfl) ?_
            simp only [Act.put, List.setIfInBounds_toArray, List.set_cons_zero, List.set_cons_succ]
            refine k_val (.int .i64 (k : Int)) (by apply opN; repeat' (first | apply OpAt.z | apply OpAt.s)) (by rfl) (by rfl) (fun _ W hS => op_mv rfl rfl) ?_
            simp only [Act.put, List.setIfInBounds_toArray, List.set_cons_zero, List.set_cons_succ]
            refine k_val (.int .i64 (q : Int)) (by apply opN; repeat' (first | apply OpAt.z | apply OpAt.s)) (by rfl) (by rfl) (fun _ W hS => op_subD rfl rfl rfl hk2H.out hbq) ?_
            simp only [Act.put, List.setIfInBounds_toArray, List.set_cons_zero, List.set_cons_succ]
            refine k_val (.pointer (some ⟨g4, 0 + q, none⟩)) (by apply opN; repeat' (first | apply OpAt.z | apply OpAt.s)) (by rfl) (by rfl) (fun _ W hS => op_idx_iD rfl rfl rfl hqk) ?_
            simp only [Act.put, List.setIfInBounds_toArray, List.set_cons_zero, List.set_cons_succ]
            refine k_val (.int .i64 (y.2 : Int)) (by apply opN; repeat' (first | apply OpAt.z | apply OpAt.s)) (by rfl) (by rfl) (fun _ W hS => op_ld rfl rfl (int_ldD (cells_nextD hy4.out rfl hS))) ?_
            simp only [Act.put, List.setIfInBounds_toArray, List.set_cons_zero, List.set_cons_succ]
            refine k_val (.slice (some ⟨g4, 0, none⟩) k d4) (by apply opN; repeat' (first | apply OpAt.z | apply OpAt.s)) (by rfl) (by rfl) (fun _ W hS => op_mv rfl rfl) ?_
            simp only [Act.put, List.setIfInBounds_toArray, List.set_cons_zero, List.set_cons_succ]
            refine k_val (.int .i64 (k : Int)) (by apply opN; repeat' (first | apply OpAt.z | apply OpAt.s)) (by rfl) (by rfl) (fun _ W hS => op_mv rfl rfl) ?_
            simp only [Act.put, List.setIfInBounds_toArray, List.set_cons_zero, List.set_cons_succ]
            refine k_val (.int .i64 ((q + 1 : Nat) : Int)) (by apply opN; repeat' (first | apply OpAt.z | apply OpAt.s)) (by rfl) (by rfl) (fun _ W hS => op_subD rfl rfl rfl hk3H.out hbq1) ?_
            simp only [Act.put, List.setIfInBounds_toArray, List.set_cons_zero, List.set_cons_succ]
            refine k_val (.pointer (some ⟨g4, 0 + (q + 1), none⟩)) (by apply opN; repeat' (first | apply OpAt.z | apply OpAt.s)) (by rfl) (by rfl) (fun _ W hS => op_idx_iD rfl rfl rfl hqk1) ?_
            simp only [Act.put, List.setIfInBounds_toArray, List.set_cons_zero, List.set_cons_succ]
            refine k_val (.int .i64 (x.2 : Int)) (by apply opN; repeat' (first | apply OpAt.z | apply OpAt.s)) (by rfl) (by rfl) (fun _ W hS => op_ld rfl rfl (int_ldD (cells_nextD hx4.out rfl hS))) ?_
            simp only [Act.put, List.setIfInBounds_toArray, List.set_cons_zero, List.set_cons_succ]
            refine k_val (.bool false) (by apply opN; repeat' (first | apply OpAt.z | apply OpAt.s)) (by rfl) (by rfl) (fun _ W hS => op_eqD rfl rfl rfl hde) ?_
            simp only [Act.put, List.setIfInBounds_toArray, List.set_cons_zero, List.set_cons_succ]
            refine k_val (.bool false) (by apply opN; repeat' (first | apply OpAt.z | apply OpAt.s)) (by rfl) (by rfl) (fun _ W hS => op_pk rfl rfl rfl rfl rfl) ?_
            simp only [Act.put, List.setIfInBounds_toArray, List.set_cons_zero, List.set_cons_succ]
            refine k_nil ?_
            intro W' hCW _
            have hRt2 := hide (hRt.out.next hCW)
            have hBw := hide hCW
            clear hCW hRt
            have hF2 := hide (show F = x :: y :: st by rw [← hmg.out]; unfold RW.mrg; rw [if_neg hxyH.out])
            clear hk hqk hqk1 hkg hbq hbq1 hqd3 hqd4 hde
            go_wp2
            go_roundw
            case rel => exact ⟨j + 1, k, _, _, d3, d4, by go_num, by omega, rfl, rfl, ⟨by rw [← hFH.out, hF2.out, hks0.out]; rfl, by rw [← hFH.out, hF2.out]; exact hRt2.out⟩⟩
            case measure => simp [intOf]; omega
    · obtain rfl : m = j := by omega
      have hSt := hide (show n = (RW.stk K l).length ∧ RtS B (.slice a3 n c3) (RW.wholes (RW.stk K l)) (.slice a4 n c4) (RW.sizesN (RW.stk K l)) w wo from by
        have h1 := hn.out
        have h2 := hS.out
        rw [hmH.out, List.take_length] at h1 h2
        exact ⟨h1, h2⟩)
      have hokF := hide (RW.stk_ok K l)
      obtain ⟨T, hT⟩ : ∃ T, T = RW.stk K l := ⟨_, rfl⟩
      have hRT := hide (show R = RW.rootS K T by rw [hRH.out, hT]; rfl)
      rw [← hT] at hSt hokF
      clear hT hn hS
      cases T with
      | nil =>
        obtain rfl : n = 0 := hSt.out.1
        have hSm1 := hide (hSm.out wo (hK0.out wo hSt.out.2.bel))
        go_wp2_with (go_at_call 149; refine hSm1.out.mono ?_; rintro e w5 ⟨rfl, h5⟩; have hB5 := hide (hSt.out.2.bel.trans (h5.mono hSt.out.2.size)); clear h5)
        exact ⟨_, results_tmp rfl _ _ _, by rw [hRT.out]; rfl, hB5.out⟩
      | cons x st =>
        obtain ⟨q, hq⟩ : ∃ q, q = st.length := ⟨_, rfl⟩
        have hqH := hide hq
        have hnq : n = q + 1 := by rw [hSt.out.1, hq]; rfl
        have hl3 : (RW.wholes (x :: st)).length = n := by rw [RW.wholes_len]; exact hSt.out.1.symm
        obtain ⟨g3, e3, hx3, hq3⟩ := own_cell1 hSt.out.2.who (show ((RW.wholes (x :: st)).map Value.string)[q]? = some (.string x.1) by rw [List.getElem?_map, hq, RW.wholes_last]; rfl)
        subst e3
        rw [Nat.zero_add] at hx3
        rw [hl3] at hq3
        have hcu := hide (show StrsOwn wo B (.slice (some ⟨g3, 0, none⟩) q c3) (RW.wholes st) by
          have h := (hSt.out.2.cut3 hl3.symm (i := q) (by omega) (by omega)).1.who
          rw [show (RW.wholes (x :: st)).take q = RW.wholes st by rw [RW.wholes_cons, List.take_append_of_le_length (by rw [RW.wholes_len]; omega), List.take_of_length_le (by rw [RW.wholes_len]; omega)]] at h
          exact h)
        have hwl := hide (show (RW.wholes st).length = q by rw [RW.wholes_len]; exact hq.symm)
        have hne : ((n : Int) == 0) = false := by simp only [beq_eq_false_iff_ne, ne_eq]; omega
        have hi1 : (n : Int) - 1 = (q : Int) := by omega
        have hi2 : (q : Int) < (n : Int) := by omega
        have hi3 : (q : Int) ≤ (c3 : Int) := by omega
        have hi4 : (0 : Int) ≤ (q : Int) := by omega
        have hqb := hide (show q ≤ 1000000 by
          have h1 := RW.len_sum _ hokF.out.2
          rw [hokF.out.1, ← hmH.out] at h1
          have h2 := hSt.out.1
          omega)
        have hx3H := hide hx3
        have hbw := fun W => hide (sbackward_any (some ⟨g3, 0, none⟩) q c3 W)
        have hnqH := hide hnq
        clear hq hnq hl3
        have hns : n ≤ 1000001 := by have := hnqH.out; have := hqb.out; omega
        go_wp2_with (go_at_call 152; refine (hbw _).out.mono ?_; rintro e w5 ⟨rfl, rfl⟩)
        clear hx3 hne hi1 hi2 hi3 hi4 hbw hns hSm hLf
        refine (wpIn_wide (n := 5)).1 ?_
        obtain ⟨ob, hob⟩ : ∃ b, b = wo.heap.size := ⟨_, rfl⟩
        have hobH := hide hob
        obtain ⟨L, hL⟩ : ∃ L, L = wo.heap.size + 1 + 1 := ⟨_, rfl⟩
        obtain ⟨w0, hw0⟩ : ∃ w0, w0 = (wo.alloc (.cells #[.string x.1] 9)).alloc (.cells #[.slice (some ⟨g3, 0, none⟩) q c3] 22) := ⟨_, rfl⟩
        rw [← hw0]
        have hB0 := hide (show Below wo.heap.size wo w0 by rw [hw0]; exact alloc_bel (alloc_bel (Below.refl _ _) (Nat.le_refl _) _) (Nat.le_refl _) _)
        have hs0 := hide (show w0.heap.size = L by rw [hw0, hL]; simp)
        have hv0 := hide (show w0.heap[ob]? = some (.cells #[.string x.1] 9 (0, 0)) by rw [hw0, hob]; exact (Below.heap_alloc _ _ _ (by simp)).trans (alloc_at1 _ _))
        have hc0 := hide (show w0.heap[ob + 1]? = some (.cells #[.slice (some ⟨g3, 0, none⟩) q c3] 22 (0, 0)) by rw [hw0, hob]; exact newAt (by simp))
        have hLo := hide (show L = ob + 2 by rw [hL, hob])
        rw [← hob]
        have hRt0 := hide (hSt.out.2.next hB0.out)
        have hcu0 := hide (show StrsOwn w0 B (.slice (some ⟨g3, 0, none⟩) q c3) (RW.wholes st) from own_keep hcu.out fun g hg => hB0.out.block g (own_blk hcu.out hg).2.1)
        have hg3 := hide (show ∀ g, (Value.slice (some ⟨g3, 0, none⟩) q c3).ownBlock = some g → B ≤ g ∧ g < ob from fun g hg => by
          have := own_blk hcu.out hg
          rw [hob]
          exact ⟨this.1, this.2.1⟩)
        have hBob := hide (show B ≤ ob by rw [hob]; exact hSt.out.2.size)
        clear hw0 hL hob hSt
        refine wpIn_rf rfl (by omega) (gf := 173) (lb := #[.pointer (some ⟨ob + 1, 0, none⟩)]) (by rw [hobH.out]; rfl) trivial (enters_of Tryz.func173 (by kernel_rfl) rfl) ?_
        intro fn hfn W1 hW1 hL1 hK1
        rw [hs0.out] at hW1 hL1 hK1 ⊢
        have hs1 := hide (show W1.heap.size = L + 2 by rw [hW1]; simp [hs0.out])
        have hB1 := hide (show Below w0.heap.size w0 W1 by rw [hW1]; exact alloc_bel (alloc_bel (Below.refl _ _) (Nat.le_refl _) _) (Nat.le_refl _) _)
        clear hW1
        generalize hrec : ({ state := .ready, pending := none, fn, tmps := _, params := _, assign := _, body := _, defers := L } : Loop) = rec at hL1 ⊢
        have hv1 := hide ((hB1.out.block ob (by rw [hs0.out, hLo.out]; omega)).trans hv0.out)
        have hc1 := hide ((hB1.out.block (ob + 1) (by rw [hs0.out, hLo.out]; omega)).trans hc0.out)
        have hRt1 := hide (hRt0.out.next hB1.out)
        have hcu1 := hide (show StrsOwn W1 B (.slice (some ⟨g3, 0, none⟩) q c3) (RW.wholes st) from own_keep hcu0.out fun g hg => hB1.out.block g (own_blk hcu0.out hg).2.1)
        have hLH := hide hL1
        have hKH := hide hK1
        clear hL1 hK1 hB0 hv0 hc0 hB1 hRt0 hcu0 hcu
        have hbw1 := hide (bwd1_in (n := 4) (by omega) (ob + 1) ob (L + 1) (some ⟨g3, 0, none⟩) c3 (RW.wholes st) (by rw [hwl.out]; exact hqb.out) (fun j W => (∃ acc : ByteArray, acc = (st.take j).foldl (fun acc r => RW.nodeB K r.1 acc) x.1 ∧ acc.size = 32 ∧ W.heap[ob]? = some (.cells #[.string acc] 9 (0, 0))) ∧ W.heap[L + 1]? = some (.loop rec) ∧ W.heap[L]? = some (.deferred (some [])) ∧ Below B w W ∧ KLaid W ks) W1)
        rw [hwl.out] at hbw1
        refine (hbw1.out hc1.out (by omega) ?_ ⟨⟨x.1, rfl, (hokF.out.2 x (by simp)).1, hv1.out⟩, hLH.out, hKH.out, hRt1.out.bel, hK0.out _ hRt1.out.bel⟩ ?_).mono ?_
        · intro W' hold
          have := strs_own (own_keep hcu1.out fun g hg => hold g (own_blk hcu1.out hg).2.1 (by have := (hg3.out g hg).2; omega))
          exact this
        · intro j s W hjs hjq hNs hJJ
          obtain ⟨⟨acc, hacc, ha32, g1⟩, gl, g4, g5, g6⟩ := hJJ
          obtain ⟨y, hy, hys⟩ : ∃ y, st[j]? = some y ∧ y.1 = s := by
            unfold RW.wholes at hjs
            have hlq := hqH.out
            rw [List.getElem?_reverse (by rw [List.length_map]; omega), List.length_map, List.getElem?_map, show st.length - 1 - (q - 1 - j) = j by omega] at hjs
            cases hq : st[j]? with
            | none => rw [hq] at hjs; cases hjs
            | some y => rw [hq] at hjs; exact ⟨y, rfl, Option.some.inj hjs⟩
          have hs32 : s.size = 32 := by rw [← hys]; exact (hokF.out.2 y (List.mem_cons_of_mem _ (List.mem_of_getElem? hy))).1
          have hnew := hide (show RW.nodeB K s acc = (st.take (j + 1)).foldl (fun acc r => RW.nodeB K r.1 acc) x.1 by
            rw [List.take_succ_eq_append_getElem (List.getElem?_eq_some_iff.1 hy).1, List.foldl_append, ← hacc, (List.getElem?_eq_some_iff.1 hy).2, ← hys]
            rfl)
          have e1 := congrArg Loop.assign hrec
          have e2 := congrArg Loop.body hrec
          have e3 := congrArg Loop.params hrec
          have e4 := congrArg Loop.tmps hrec
          have e5 := congrArg Loop.fn hrec
          have e6 := congrArg Loop.state hrec
          have e7 := congrArg Loop.pending hrec
          dsimp only at e1 e2 e3 e4 e5 e6 e7
          have eH := hide (And.intro e1 (And.intro e2 (And.intro e3 (And.intro e4 (And.intro e6 e7)))))
          have hl := hide gl
          refine yieldAt_body gl e6.symm (by rw [← e3]; rfl) (by rw [← e5]; exact hfn) ?_
          rw [← e1, ← e2, ← e3, ← e4]
          clear e1 e2 e3 e4 e5 e6 e7 hrec gl hjs hy hys hacc
          have g1 := hide g1
          have g4 := hide g4
          have g5 := hide g5
          have hNd1 := hide (fun W hW => hNd.out s acc hs32 ha32 W hW)
          have hns := hide (RW.nodeB_size K s acc)
          obtain ⟨ND, hND⟩ : ∃ N, N = RW.nodeB K s acc := ⟨_, rfl⟩
          rw [← hND] at hnew hNd1 hns
          clear hND
          gi_wp2
          refine ⟨hl.out, ?_⟩
          intro W2 busy hbusy hl2 hg2
          have hrdy : Hid (({ busy with state := .ready, pending := none } : Loop) = rec) := by
            obtain ⟨e1, e2, e3, e4, e6, e7⟩ := eH.out
            show _ = _
            rw [hbusy]; cases rec; simp_all
          clear hbusy eH
          have hoth := hide (show ∀ i, i < W.heap.size → i ≠ L + 1 → W2.heap[i]? = W.heap[i]? from fun i hi hne => hg2.block i hi (by simp; omega))
          have hv2 := hide ((hoth.out ob (Array.getElem?_eq_some_iff.1 g1.out).1 (by have := hLo.out; omega)).trans g1.out)
          have hd2 := hide ((hoth.out L (Array.getElem?_eq_some_iff.1 g4.out).1 (by omega)).trans g4.out)
          have hl2H := hide hl2
          have hc2 := hide (show ChgS (fun i => i = ob ∨ i = L + 1) W W2 from ⟨hg2.os, hg2.tape, hg2.output, hg2.size, fun i hi hn => hoth.out i hi fun h => hn (.inr h)⟩)
          have hB2 := hide (show Below B w W2 from g5.out.trans (hc2.out.belowJ (fun i hi => by have := hLo.out; have := hBob.out; rcases hi with h | h <;> omega) (Nat.le_trans hBob.out (by have := hs1.out; have := hLo.out; omega))))
          have cv2 := cellAt hv2.out 0
          have hadd := hide (hNd1.out W2 (hK0.out _ hB2.out))
          clear hl2 hg2
          gi_wp2
          refine ⟨trivial, CallsIn.mono (CallsIn.inRound _ (callsIn_wide.2 hadd.out)) ?_⟩
          rintro e W3 ⟨rfl, h5⟩
          have hv3 := hide ((h5.block ob (Array.getElem?_eq_some_iff.1 hv2.out).1).trans hv2.out)
          have hl3 := hide ((h5.block (L + 1) (Array.getElem?_eq_some_iff.1 hl2H.out).1).trans hl2H.out)
          have hd3 := hide ((h5.block L (Array.getElem?_eq_some_iff.1 hd2.out).1).trans hd2.out)
          have hc3 := hide (hc2.out.trans (ChgS.of_belowF h5))
          have cv3 := cellAt hv3.out 0
          have fv3 : W3.frozen? ⟨ob, 0, none⟩ = false := unfrozen hv3.out
          clear h5
          gi_wp2
          have hL3 := (Array.getElem?_eq_some_iff.1 hl3.out).1
          have hlo := hLo.out
          have hc : ChgS (fun i => i = ob ∨ i = L + 1) W ((W3.setCell ⟨ob, 0, none⟩ (.string ND)).putObj (L + 1) (.loop rec)) := (hc3.out.set (.inl rfl) _).grown (grownBy_putObj' _ (L + 1) _) (fun i hi => by cases hi; exact .inr rfl)
          have hBN : Below B w ((W3.setCell ⟨ob, 0, none⟩ (.string ND)).putObj (L + 1) (.loop rec)) := g5.out.trans (hc.belowJ (fun i hi => by have := hBob.out; rcases hi with h | h <;> omega) (Nat.le_trans hBob.out (by have := hs1.out; omega)))
          refine ⟨(Below.heap_setCell _ _ _ _ (by show L + 1 ≠ ob; omega)).trans hl3.out, ?_⟩
          rw [hrdy.out]
          refine ⟨rfl, ⟨⟨ND, hnew.out, hns.out, (World.putObj_heap_other (by omega)).trans (heap_setCell_same _ _ _ _ _ _ hv3.out)⟩, World.putObj_heap_same (by simpa using hL3), (World.putObj_heap_other (by omega)).trans ((Below.heap_setCell _ _ _ _ (by show L ≠ ob; omega)).trans hd3.out), hBN, hK0.out _ hBN⟩, ?_⟩
          refine ⟨hc.os, hc.tape, hc.output, hc.size, fun i hi hn => ?_⟩
          by_cases h : i = L + 1
          · subst h
            exact (World.putObj_heap_same (by simpa using hL3)).trans hl.out.symm
          · exact hc.block i hi (fun h1 => h1.elim (fun h1 => hn (.inl h1)) h)
        · rintro e W2 ⟨⟨u, rfl⟩, ⟨acc, hacc, _, g1⟩, gl, g4, g5, _⟩
          have e6 := congrArg Loop.state hrec
          have e7 := congrArg Loop.pending hrec
          dsimp only at e6 e7
          refine ⟨⟨u, rfl⟩, rec, gl, by rw [← e6]; decide, .inl ⟨e7.symm, ?_⟩⟩
          clear e6 e7 hrec
          intro W3 oo hW3
          have hg3' := grownBy_putObj' W2 (L + 1) oo
          rw [← hW3] at hg3'
          have hlo := hLo.out
          have hbo := hBob.out
          have hv3 := (hg3'.block ob (Array.getElem?_eq_some_iff.1 g1).1 (by simp; omega)).trans g1
          have hk3 := hide ((hg3'.block L (Array.getElem?_eq_some_iff.1 g4).1 (by simp)).trans g4)
          have hB3 := hide (g5.grown hg3' (Nat.le_trans (Nat.le_of_eq hBH.out) g5.size) (fun k e => by cases e; omega))
          have cv3 := cellAt hv3 0
          have hfin := hide (show acc = R by rw [hRT.out, hacc, hqH.out, List.take_length]; rfl)
          clear hW3 hg3' g1 gl g4 g5 hlo hbo hacc
          go_wp2
          refine ⟨by simp, .inl ⟨_, _, rfl, run_takeDeferred hk3.out, ?_⟩⟩
          exact ⟨_, results_tmp rfl _ _ _, by rw [hfin.out]; rfl, hB3.out.grown (grownBy_putObj' _ _ _) (Nat.le_trans (Nat.le_of_eq hBH.out) hB3.out.size) (fun k e => by cases e; have := hLo.out; have := hBob.out; omega)⟩
end Go.Proofs.YtllbphanfahkkaaGreatDoor

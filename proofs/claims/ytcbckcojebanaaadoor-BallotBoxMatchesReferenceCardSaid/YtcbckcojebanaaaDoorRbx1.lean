/-
  Package royaltyref25: a box in memory; NewBox, Count: what they return; only new memory is written.
-/
import Derived.Test.YtcbckcojebanaaaDoorRbxP
import Derived.Test.YtcbckcojebanaaaDoorMb
import Derived.Test.YtcbckcojebanaaaDoorBr5
namespace Go.Proofs.YtcbckcojebanaaaDoor
open Go.RowKit RG
namespace RW
theorem take_one {α : Type} {l : List α} {i : Nat} {x : α} (h : l[i]? = some x) : l.take (i + 1) = l.take i ++ [x] := by
  obtain ⟨hi, rfl⟩ := List.getElem?_eq_some_iff.1 h
  exact List.take_succ_eq_append_getElem hi
/-- a message of the reference's box: six numbers, a digest, the slice that is its list -/
abbrev Mx := (Nat → Int) × ByteArray × Option Addr × Nat × Nat
def mxl (x : Mx) : Value := .slice x.2.2.1 x.2.2.2.1 x.2.2.2.2
def mxe (x : Mx) : List Value := (mcells x.1 x.2.1 (mxl x)).toList
def mxp (x : Mx) : Vk × ByteArray := (vk x.1, x.2.1)
theorem mxe_len (x : Mx) : (mxe x).length = 8 := rfl
theorem mxe_one : ∀ (x : Mx), ∀ u ∈ mxe x, u.oneCell' = true := by
  intro x u hu
  simp only [mxe, mcells, mxl, List.mem_cons, List.not_mem_nil, or_false] at hu
  rcases hu with rfl | rfl | rfl | rfl | rfl | rfl | rfl | rfl <;> rfl
theorem mt_eq (kd h r : Int) (x : Mx) : mt kd h r (mxp x) = (((x.1 0 == kd) && (x.1 3 == h)) && (x.1 4 == r)) := by
  unfold mt mxp vk
  simp only [Prod.mk.injEq]
  by_cases h0 : x.1 0 = kd <;> by_cases h1 : x.1 3 = h <;> by_cases h2 : x.1 4 = r <;> simp [h0, h1, h2]
end RW
/-- a box of the reference -/
structure RBx (W : World) (rb : Nat) (N : Int) (v : Value) (Lx : List RW.Mx) : Prop where
  row : W.heap[rb]? = some (.cells #[.int .i64 N, v] 92 (0, 0))
  own : W.ownsRow (rb + 1) 24 8 v Lx.length (rowCells RW.mxe Lx)
section
variable {W W' : World} {rb : Nat} {N : Int} {v : Value} {Lx : List RW.Mx}
theorem RBx.lt (h : RBx W rb N v Lx) : rb < W.heap.size := (Array.getElem?_eq_some_iff.1 h.row).1
theorem RBx.keep (h : RBx W rb N v Lx) (h1 : W'.heap[rb]? = W.heap[rb]?) (h2 : ∀ g, v.ownBlock = some g → W'.heap[g]? = W.heap[g]?) : RBx W' rb N v Lx := ⟨h1.trans h.row, own_keep h.own h2⟩
theorem RBx.next (h : RBx W rb N v Lx) (hB : Below W.heap.size W W') : RBx W' rb N v Lx := h.keep (hB.block _ h.lt) fun _ hg => hB.block _ (own_block h.own hg).2.1
theorem RBx.at {i : Nat} {x : RW.Mx} (h : RBx W rb N v Lx) (hx : Lx[i]? = some x) : ∃ g c, v = .slice (some ⟨g, 0, none⟩) Lx.length c ∧ rb + 1 ≤ g ∧ g < W.heap.size ∧ W.rangeAt g (i * 8) (RW.mxe x) := by
  have hi := (List.getElem?_eq_some_iff.1 hx).1
  have h0 := h.own
  rcases h.own.2 with ⟨rfl, h1⟩ | ⟨g, cap, cur, rfl, hB, hg, _⟩
  · rw [h1] at hi; exact absurd hi (Nat.not_lt_zero _)
  · exact ⟨g, cap, rfl, hB, (Array.getElem?_eq_some_iff.1 hg).1, own_range h0 (i * 8) _ (fun j u hj => rowCells_get RW.mxe_len Lx i x hx j u hj)⟩
end
theorem rnewbox_yes (n : Int) (h1 : 1 ≤ n) (h7 : n ≤ 7) (w : World) : Calls Tryd.prog 29 #[.int .i64 n] w fun e w' => e = .returned (.pointer (some ⟨w.heap.size, 0, none⟩)) ∧ w' = w.alloc (.cells #[.int .i64 n, .slice none 0 0] 92) := by
  have h1' : ¬ n < 1 := by omega
  have h7' : ¬ 7 < n := by omega
  go_enter Tryd.func29, Tryd.ntmps29
  go_wp2
  go_ret
  exact ⟨rfl, rfl⟩
theorem rnewbox_no (n : Int) (h : ¬ (1 ≤ n ∧ n ≤ 7)) (w : World) : Calls Tryd.prog 29 #[.int .i64 n] w fun e w' => e = .returned (.pointer none) ∧ w = w' := by
  by_cases h1 : n < 1
  · go_enter Tryd.func29, Tryd.ntmps29
    go_wp2
    go_ret
    exact ⟨rfl, rfl⟩
  · have h7 : 7 < n := by omega
    go_enter Tryd.func29, Tryd.ntmps29
    go_wp2
    go_ret
    exact ⟨rfl, rfl⟩
attribute [local go_sem ↓] ldMsg_msg
set_option maxRecDepth 100000 in
set_option maxHeartbeats 8000000 in
theorem rcount_any {W : World} {rb : Nat} {N : Int} {v : Value} {Lx : List RW.Mx} (h : RBx W rb N v Lx) (hl : Lx.length ≤ 10000) (kd hh r : Int) (d : ByteArray) :
    Calls Tryd.prog 36 #[.pointer (some ⟨rb, 0, none⟩), .int .i64 kd, .int .i64 hh, .int .i64 r, .string d] W fun e w' => e = .returned (.int .i64 (RW.rc kd hh r d (Lx.map RW.mxp) : Nat)) ∧ Below W.heap.size W w' := by
  obtain ⟨av, cv, rfl⟩ := own_fm h.own
  obtain ⟨nl, hnl⟩ : ∃ n, n = Lx.length := ⟨_, rfl⟩
  have hnlH := hide hnl
  obtain ⟨LL, hLL⟩ : ∃ L, L = Lx.map RW.mxp := ⟨_, rfl⟩
  have hLLH := hide hLL
  rw [← hLL]
  have hH := hide (fun W' (hB : Below W.heap.size W W') => h.next hB)
  have hb0 := hide (Below.refl W.heap.size W)
  rw [← hnl] at hl hH
  clear h hnl hLL
  go_enter Tryd.func36, Tryd.ntmps36
  go_wp2
  go_loopw [11, 12] (fun c i wr => ∃ j : Nat, i = .int .i64 j ∧ j ≤ nl ∧ c = .int .i64 (RW.rc kd hh r d (LL.take j) : Nat) ∧ Hid (Below W.heap.size W wr)) (fun _ i _ => nl - (intOf i).toNat)
  case atStart => exact ⟨0, rfl, Nat.zero_le _, rfl, hb0.out⟩
  case round =>
    clear hb0
    obtain ⟨j, rfl, hj, rfl, hB⟩ := hrel
    have hR := hH.out wr hB.out
    have c1 : wr.cell? ⟨rb, 1, none⟩ = some (.slice av nl cv) := (cell_at hR.row 1).trans rfl
    by_cases hlt : j < nl
    · obtain ⟨x, hx⟩ : ∃ x, Lx[j]? = some x := ⟨_, List.getElem?_eq_getElem (by rw [← hnlH.out]; exact hlt)⟩
      obtain ⟨g, c, hv, _, _, hrg⟩ := hR.at hx
      injection hv with p1 p2 p3
      subst p1
      have hci := msg_info x.1 x.2.1 (RW.mxl x)
      have hco := msg_one x.1 x.2.1 (RW.mxl x) rfl
      have hi8 : (Tryd.prog.info? 24).map (·.size) = some (RW.mxe x).length := hci
      have htk := hide (RW.take_one (show LL[j]? = some (RW.mxp x) by rw [hLLH.out, List.getElem?_map, hx]; rfl))
      have hrl := hide (RW.rc_le kd hh r d (LL.take j))
      have hltH := hide hlt
      clear hR hx p2 p3
      go_upto_region 6 with (first
        | (refine wpList_load_mid rfl 24 (.tmp 28) rfl g (j * 8) rfl (RW.mxe x) _ hrg Tryd.underlying24 rfl hi8 ?_)
        | (refine wpList_store_new rfl 24 (.tmp 13) (.tmp 29) rfl (RW.mcells x.1 x.2.1 (RW.mxl x)) rfl rfl 24 RW.noM hci rfl hco ?_))
      obtain ⟨b13, hb13⟩ : ∃ b, b = wr.heap.size := ⟨_, rfl⟩
      rw [← hb13]
      refine gen_world (fun W' => Below wr.heap.size wr W' ∧ W'.heap[b13]? = some (.cells (RW.mcells x.1 x.2.1 (RW.mxl x)) 24 (0, 0))) ⟨(Below.refl _ _).alloc (Nat.le_refl _) _, by rw [hb13]; exact heap_alloc_new _ _⟩ ?_
      rintro w3 ⟨hB3, h13⟩
      have k0 : w3.cell? ⟨b13, 0, none⟩ = some (.int .i64 (x.1 0)) := (cell_at h13 0).trans rfl
      have k3 : w3.cell? ⟨b13, 3, none⟩ = some (.int .i64 (x.1 3)) := (cell_at h13 3).trans rfl
      have k4 : w3.cell? ⟨b13, 4, none⟩ = some (.int .i64 (x.1 4)) := (cell_at h13 4).trans rfl
      have k6 : w3.cell? ⟨b13, 6, none⟩ = some (.string x.2.1) := (cell_at h13 6).trans rfl
      have hB3H := hide (hB.out.trans (hB3.mono hB.out.size))
      clear hB3 h13 hb13 hB hci hco hi8 hrg c1
      obtain ⟨q0, hq0⟩ : ∃ q, q = (x.1 0 == kd) := ⟨_, rfl⟩
      obtain ⟨q1, hq1⟩ : ∃ q, q = (x.1 3 == hh) := ⟨_, rfl⟩
      obtain ⟨q2, hq2⟩ : ∃ q, q = (x.1 4 == r) := ⟨_, rfl⟩
      obtain ⟨q3, hq3⟩ : ∃ q, q = (x.2.1.toList == d.toList) := ⟨_, rfl⟩
      have hmt := hide (show RW.mt kd hh r (RW.mxp x) = ((q0 && q1) && q2) by rw [RW.mt_eq, hq0, hq1, hq2])
      have hdg := hide (show x.2.1 = d ↔ q3 = true by
        rw [hq3]
        by_cases e : x.2.1 = d
        · rw [e]; simp
        · rw [RW.bytes_ne e]; simp [e])
      have e0 := hq0.symm
      have e1 := hq1.symm
      have e2 := hq2.symm
      have e3 := hq3.symm
      clear hq0 hq1 hq2 hq3
      obtain ⟨c, hcc⟩ : ∃ c, c = (((q0 && q1) && q2) && q3) := ⟨_, rfl⟩
      have hccH := hide hcc
      clear hcc
      simp only [Act.put]
      go_cut [51] (fun s wx => s = .bool c ∧ wx = w3)
      case first =>
        cases q0
        · go_wp2
          all_goals go_meet
          all_goals exact ⟨by rw [hccH.out] <;> rfl, rfl⟩
        · cases q1
          · go_wp2
            all_goals go_meet
            all_goals exact ⟨by rw [hccH.out] <;> rfl, rfl⟩
          · cases q2
            · go_wp2
              all_goals go_meet
              all_goals exact ⟨by rw [hccH.out] <;> rfl, rfl⟩
            · cases q3
              · go_wp2
                all_goals go_meet
                all_goals exact ⟨by rw [hccH.out] <;> rfl, rfl⟩
              · go_wp2
                all_goals go_meet
                all_goals exact ⟨by rw [hccH.out] <;> rfl, rfl⟩
      case rest =>
      obtain ⟨rfl, hwx⟩ := hcut
      have hwx' := hwx.symm
      subst hwx'
      clear e0 e1 e2 e3 k0 k3 k4 k6
      have hrc : RW.rc kd hh r d (LL.take (j + 1)) = RW.rc kd hh r d (LL.take j) + if c = true then 1 else 0 := by
        rw [htk.out, RW.rc_append]
        congr 1
        show RW.rc kd hh r d [RW.mxp x] = _
        rw [RW.rc, RW.rc, Nat.add_zero, hmt.out]
        have e : (RW.mxp x).2 = x.2.1 := rfl
        rw [e, hccH.out]
        by_cases hq : ((q0 && q1) && q2) = true ∧ q3 = true
        · rw [if_pos ⟨hq.1, hdg.out.2 hq.2⟩, if_pos (by rw [hq.1, hq.2]; rfl)]
        · rw [if_neg (fun g => hq ⟨g.1, hdg.out.1 g.2⟩), if_neg (fun g => hq (by rw [Bool.and_eq_true] at g; exact g))]
      have hrl2 : RW.rc kd hh r d (LL.take j) ≤ 10000 := by
        have := hrl.out
        rw [List.length_take] at this
        omega
      obtain ⟨z, hz⟩ : ∃ z, z = RW.rc kd hh r d (LL.take j) := ⟨_, rfl⟩
      rw [← hz] at hrc hrl2 ⊢
      have hrcH := hide hrc
      clear hz hrc hrl htk hmt hdg hccH
      cases c
      · go_wp2
        go_roundw
        case rel => exact ⟨j + 1, by go_num, hltH.out, by rw [hrcH.out]; rfl, hB3H.out⟩
        case measure => have := hltH.out; simp [intOf]; omega
      · go_wp2
        go_roundw
        case rel => exact ⟨j + 1, by go_num, hltH.out, by rw [hrcH.out]; go_num, hB3H.out⟩
        case measure => have := hltH.out; simp [intOf]; omega
    · obtain rfl : nl = j := by omega
      have hfull : LL.take nl = LL := List.take_of_length_le (by rw [hLLH.out, List.length_map, ← hnlH.out]; exact Nat.le_refl _)
      rw [hfull]
      clear hfull hR
      go_wp2
      go_ret
      exact ⟨rfl, hB.out⟩
end Go.Proofs.YtcbckcojebanaaaDoor

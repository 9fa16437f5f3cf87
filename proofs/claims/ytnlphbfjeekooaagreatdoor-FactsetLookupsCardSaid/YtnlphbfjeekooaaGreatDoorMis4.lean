/-
  Package factset: Union, Root: what they return, what they change.
-/
import Derived.Test.YtnlphbfjeekooaaGreatDoorMis3
import Derived.Test.YtnlphbfjeekooaaGreatDoorDr4
namespace Go.Proofs.YtnlphbfjeekooaaGreatDoor
open Go.RowKit RG
namespace RW
theorem misL_asc {p : ByteArray → Bool} {l : List ByteArray} (h : AscB l) : missB p l = l.filter fun x => !p x :=
  asc_uniq (uqB_asc _) (List.Pairwise.sublist List.filter_sublist h) fun x => by
    rw [mem_missB, List.mem_filter]
    simp
/-- what Union returns, and what the set then holds -/
def uniR (D C : Ents) : Int × Ents := if 4000 < (uniE D C).length then (60, C) else (0, uniE D C)
end RW
section
variable {ev : Operand → Value} {o : Oper} {x y : Operand} {w : World}
theorem op_x2F {D : Value → World → Prop} {k : Nat} {ts : Array TypeId} {n m : Value} (ho : o.op = .call ⟨.value (.func k), #[x, y], ts⟩) (hf : ev (.func k) = .func (.func k) #[] #[]) (hx : ev x = n) (hy : ev y = m) (hk : ∀ args w, (callFunc k args).run Tryz.prog w = .ok (.enter k args) w)
    (h : Calls Tryz.prog k #[n, m] w fun e w'' => ∃ u, e = .returned u ∧ D u w'') : XUp Tryz.prog D ((execOp ev o).run Tryz.prog w) := by
  have h1 : (execOp ev o).run Tryz.prog w = .ok (.enter k #[n, m]) w := by
    unfold execOp
    rw [ho]
    go_simp
  rw [h1]
  exact h
end
theorem cf_copyF : ∀ args w, (callFunc 46 args).run Tryz.prog w = .ok (.enter 46 args) w := by
  intro args w
  go_simp
set_option maxRecDepth 100000 in
set_option maxHeartbeats 4000000 in
theorem sunion_any (sb mb tb nb : Nat) (C D : RW.Ents) (w : World) (hS : SetAt w sb mb C) (hT : SetAt w tb nb D) (hne : mb ≠ nb) (hC : C.length ≤ 1000000) (hD : D.length ≤ 1000000) :
    Calls Tryz.prog 22 #[.pointer (some ⟨sb, 0, none⟩), .pointer (some ⟨tb, 0, none⟩)] w fun e w' => e = .returned (.int .i64 (RW.uniR D C).1) ∧ SetAt w' sb mb (RW.uniR D C).2 ∧ ChgS (fun j => j = mb) w w' := by
  obtain ⟨n, hn⟩ : ∃ n, n = (RW.missB (fun x => (KM.get x C).isSome) (D.map (·.1))).length := ⟨_, rfl⟩
  have hul : C.length + n = (RW.uniE D C).length := by rw [hn, RW.misL_asc hT.asc, RW.uniE_len hT.asc hS.asc]
  have hnl : n ≤ 1000000 := by rw [hn]; exact Nat.le_trans (RW.missB_len _ _) (by rw [List.length_map]; exact hD)
  have hR : RW.uniR D C = if 4000 < C.length + n then (60, C) else (0, RW.uniE D C) := by unfold RW.uniR; rw [← hul]
  have hRH := hide hR
  have hI := hide (sids_any tb nb D hD w hT)
  have hSn := hide (fun W (hW : Below w.heap.size w W) => hS.next hW)
  have hTn := hide (fun W (hW : Below w.heap.size w W) => hT.next hW)
  have hM := hide (fun W (hW : Below w.heap.size w W) v (hv : StrR W v (D.map (·.1))) => smiss_any (some ⟨sb, 0, none⟩) (fun x => (KM.get x C).isSome) v (D.map (·.1)) (by rw [List.length_map]; exact hD) W (hasP_set (hS.next hW)) hv)
  have hln := hS.len 3
  have c0 := hS.cell
  have hnH := hide hn
  have hneH := hide hne
  have hCH := hide hC
  obtain ⟨R, hRR⟩ : ∃ R, R = RW.uniR D C := ⟨_, rfl⟩
  rw [← hRR] at hRH ⊢
  obtain ⟨q, hq⟩ : ∃ q, q = C.length := ⟨_, rfl⟩
  rw [← hq] at hRH hln hC
  clear hn hul hR hS hT hne hRR hD hCH hq
  go_enter Tryz.func22, Tryz.ntmps22
  go_upto_region 3 with fail
  by_cases hfull : 4000 < q + n
  · have hi4 : (4000 : Int) < (q : Int) + (n : Int) := by omega
    have hres := hide (hRH.out.trans (if_pos hfull))
    have hwr : wrap64 ((q : Int) + (n : Int)) = (q : Int) + (n : Int) := IntWalk.wrap64_in _ ⟨by omega, by omega⟩
    go_wp2_with (first
      | (go_at_call 14; refine hI.out.mono ?_; rintro e w1 ⟨u1, rfl, h1, h2⟩; have h1H := hide h1; have h2H := hide h2; clear h1 h2)
      | (go_at_call 32; refine (hM.out w1 h2H.out u1 (strs_own h1H.out)).mono ?_; rintro e w2 ⟨u2, rfl, h1, h2⟩; obtain ⟨a2, c2, rfl⟩ := own_shape h1; rw [← hnH.out]; have h4H := hide (h2H.out.trans (h2.mono h2H.out.size)); clear h1 h2))
    go_ret
    rw [hres.out]
    exact ⟨rfl, hSn.out _ h4H.out, ChgS.of_belowF h4H.out⟩
  · have hi4 : ¬ (4000 : Int) < (q : Int) + (n : Int) := by omega
    have hres := hide (hRH.out.trans (if_neg hfull))
    have hwr : wrap64 ((q : Int) + (n : Int)) = (q : Int) + (n : Int) := IntWalk.wrap64_in _ ⟨by omega, by omega⟩
    go_upto_region 5 with (first
      | (go_at_call 14; refine hI.out.mono ?_; rintro e w1 ⟨u1, rfl, h1, h2⟩; have h1H := hide h1; have h2H := hide h2; clear h1 h2)
      | (go_at_call 32; refine (hM.out w1 h2H.out u1 (strs_own h1H.out)).mono ?_; rintro e w2 ⟨u2, rfl, h1, h2⟩; obtain ⟨a2, c2, rfl⟩ := own_shape h1; rw [← hnH.out]; have h4H := hide (h2H.out.trans (h2.mono h2H.out.size)); clear h1 h2))
    have hS2 := hide (hSn.out _ h4H.out)
    have hT2 := hide (hTn.out _ h4H.out)
    clear hln c0 hwr hi4
    refine wp_region_k (fun _ W => W.heap[sb]? = some (.cells #[.map (some mb)] 78 (0, 0)) ∧ W.heap[tb]? = some (.cells #[.map (some nb)] 78 (0, 0))) (fun W => SetAt W sb mb C ∧ SetAt W tb nb D ∧ Below w.heap.size w W) [8] (.op 0 (.op 1 (.op 2 (.op 3 (.op 4 (.op 5 (.op 6 (.op 7 (.op 8 .nil))))))))) (by kernel_rfl) (by kernel_rfl) (by rfl) (by kernel_rfl) ⟨hS2.out.row, hT2.out.row⟩ ⟨hS2.out.next (Below.refl _ _).drew, hT2.out.next (Below.refl _ _).drew, h4H.out.drew⟩ ?_
    refine k_val (.pointer (some ⟨sb, 0, none⟩)) (by apply opN; repeat' (first | apply OpAt.z | apply OpAt.s)) (by rfl) (by rfl) (fun _ W hS => op_mv rfl rfl) ?_
    simp only [Act.put, List.setIfInBounds_toArray, List.set_cons_zero, List.set_cons_succ]
    refine k_val (.pointer (some ⟨sb, 0, none⟩)) (by apply opN; repeat' (first | apply OpAt.z | apply OpAt.s)) (by rfl) (by rfl) (fun _ W hS => op_nc rfl rfl) ?_
    simp only [Act.put, List.setIfInBounds_toArray, List.set_cons_zero, List.set_cons_succ]
    refine k_val (.pointer (some ⟨sb, 0, none⟩)) (by apply opN; repeat' (first | apply OpAt.z | apply OpAt.s)) (by rfl) (by rfl) (fun _ W hS => op_fa rfl rfl (fa_set W)) ?_
    simp only [Act.put, List.setIfInBounds_toArray, List.set_cons_zero, List.set_cons_succ]
    refine k_val (.map (some mb)) (by apply opN; repeat' (first | apply OpAt.z | apply OpAt.s)) (by rfl) (by rfl) (fun _ W hS => op_ld rfl rfl (map_ldF (cellAt hS.1 0))) ?_
    simp only [Act.put, List.setIfInBounds_toArray, List.set_cons_zero, List.set_cons_succ]
    refine k_val (.pointer (some ⟨tb, 0, none⟩)) (by apply opN; repeat' (first | apply OpAt.z | apply OpAt.s)) (by rfl) (by rfl) (fun _ W hS => op_mv rfl rfl) ?_
    simp only [Act.put, List.setIfInBounds_toArray, List.set_cons_zero, List.set_cons_succ]
    refine k_val (.pointer (some ⟨tb, 0, none⟩)) (by apply opN; repeat' (first | apply OpAt.z | apply OpAt.s)) (by rfl) (by rfl) (fun _ W hS => op_nc rfl rfl) ?_
    simp only [Act.put, List.setIfInBounds_toArray, List.set_cons_zero, List.set_cons_succ]
    refine k_val (.pointer (some ⟨tb, 0, none⟩)) (by apply opN; repeat' (first | apply OpAt.z | apply OpAt.s)) (by rfl) (by rfl) (fun _ W hS => op_fa rfl rfl (fa_set W)) ?_
    simp only [Act.put, List.setIfInBounds_toArray, List.set_cons_zero, List.set_cons_succ]
    refine k_val (.map (some nb)) (by apply opN; repeat' (first | apply OpAt.z | apply OpAt.s)) (by rfl) (by rfl) (fun _ W hS => op_ld rfl rfl (map_ldF (cellAt hS.2 0))) ?_
    simp only [Act.put, List.setIfInBounds_toArray, List.set_cons_zero, List.set_cons_succ]
    refine k_step (fun K' u => K' = fun W => SetAt W sb mb (RW.uniE D C) ∧ ChgS (fun j => j = mb) w W) (by apply opN; repeat' (first | apply OpAt.z | apply OpAt.s)) (by rfl) (by rfl) (by rfl) (fun W hC hK => ?_) ?_
    · refine op_x2F (n := .map (some mb)) (m := .map (some nb)) rfl rfl rfl rfl cf_copyF ?_
      refine (copy_any sb mb tb nb C D W hK.1 hK.2.1 hneH.out).mono ?_
      rintro e w3 ⟨⟨u, rfl⟩, g1, g2⟩
      refine ⟨u, rfl, ⟨g1.row, ?_⟩, _, ⟨g1, (ChgS.of_belowF hK.2.2).trans g2⟩, rfl⟩
      have ht := hK.2.1.row
      exact (g2.block tb (Array.getElem?_eq_some_iff.1 ht).1 (hK.1.nem ht)).trans ht
    rintro _ _ rfl
    simp only [Act.put, List.setIfInBounds_toArray, List.set_cons_zero, List.set_cons_succ]
    refine k_nil ?_
    intro W' _ hK'
    have hK' := hide hK'
    clear hI hSn hTn hM
    go_wp2
    go_ret
    rw [hres.out]
    exact ⟨rfl, hK'.out.1, hK'.out.2⟩
set_option maxRecDepth 100000 in
set_option maxHeartbeats 4000000 in
theorem sroot_any (K : Nat → Int) (ks : Array Value) (hks : RW.WsOk ks K) (sb mb : Nat) (C : RW.Ents) (hC : C.length ≤ 1000000) (hs : ∀ x ∈ C, x.1.size ≤ 1000000) (w : World) (hS : SetAt w sb mb C) (hK : KLaid w ks) :
    Calls Tryz.prog 16 #[.pointer (some ⟨sb, 0, none⟩)] w fun e w' => e = .returned (.string (RW.rootB K (C.map (·.1)))) ∧ Below w.heap.size w w' := by
  have hI := hide (sids_any sb mb C hC w hS)
  have hD := hide (fun W (hW : Below w.heap.size w W) v (hv : StrR W v (C.map (·.1))) => droot_any K ks hks v (C.map (·.1)) (by rw [List.length_map]; exact hC) (fun s h => by obtain ⟨x, hx, rfl⟩ := List.mem_map.1 h; exact hs x hx) W hv (RW.klaid hK hW))
  obtain ⟨R, hR⟩ : ∃ R, R = RW.rootB K (C.map (·.1)) := ⟨_, rfl⟩
  rw [← hR] at hD ⊢
  clear hS hK hs hC hR
  go_enter Tryz.func16, Tryz.ntmps16
  go_wp2_with (first
    | (go_at_call 14; refine hI.out.mono ?_; rintro e w1 ⟨u1, rfl, h1, h2⟩; have h1H := hide h1; have h2H := hide h2; clear h1 h2)
    | (go_at_call 42; refine (hD.out w1 h2H.out u1 (strs_own h1H.out)).mono ?_; rintro e w2 ⟨rfl, h2⟩; have h4H := hide (h2H.out.trans (h2.mono h2H.out.size)); clear h2))
  go_ret
  exact ⟨rfl, h4H.out⟩
theorem sroot_nil (w : World) : Calls Tryz.prog 16 #[.pointer none] w fun e w' => e = .returned (.string ⟨#[]⟩) ∧ w' = w := by
  go_enter Tryz.func16, Tryz.ntmps16
  go_wp2
  go_ret
  exact ⟨rfl, rfl⟩
theorem sunion_nil1 (v : Value) (w : World) : Calls Tryz.prog 22 #[.pointer none, v] w fun e w' => e = .returned (.int .i64 1) ∧ w' = w := by
  go_enter Tryz.func22, Tryz.ntmps22
  go_wp2
  go_ret
  exact ⟨rfl, rfl⟩
theorem sunion_nil2 (sb : Nat) (w : World) : Calls Tryz.prog 22 #[.pointer (some ⟨sb, 0, none⟩), .pointer none] w fun e w' => e = .returned (.int .i64 1) ∧ w' = w := by
  go_enter Tryz.func22, Tryz.ntmps22
  go_wp2
  go_ret
  exact ⟨rfl, rfl⟩
theorem spart_nil (v : Value) (w : World) : Calls Tryz.prog 27 #[.pointer none, v] w fun e w' => e = .returned (.tuple #[.pointer none, .bool false]) ∧ w' = w := by
  go_enter Tryz.func27, Tryz.ntmps27
  go_wp2
  go_ret2
  exact ⟨rfl, rfl⟩
theorem sadd_nil (x : RW.Fc) (w : World) : Calls Tryz.prog 20 #[.pointer none, RW.fv x] w fun e w' => e = .returned (.tuple #[.bool false, .int .i64 1]) ∧ Below w.heap.size w w' := by
  obtain ⟨cs, hcs⟩ : ∃ cs, cs = RW.fcells x.1 x.2 := ⟨_, rfl⟩
  rw [show RW.fv x = .agg cs by rw [hcs]; rfl]
  have hA := hide (alloc_bel (Below.refl w.heap.size w) (Nat.le_refl _) (.cells cs 38))
  clear hcs
  go_enter Tryz.func20, Tryz.ntmps20
  go_wp2
  go_ret2
  exact ⟨rfl, hA.out⟩
end Go.Proofs.YtnlphbfjeekooaaGreatDoor

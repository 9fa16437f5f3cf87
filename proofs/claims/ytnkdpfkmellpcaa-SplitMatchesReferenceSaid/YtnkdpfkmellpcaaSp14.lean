/-
  Package royaltylaw12: SplitResolveMatchesReference: it returns true; only new memory is written.
-/
import Derived.Test.YtnkdpfkmellpcaaSp12
import Derived.Test.YtnkdpfkmellpcaaStg2
namespace Go.Proofs.Ytnkdpfkmellpcaa
open Go.RowKit RG
attribute [local go_sem ↓] ldRow_shares
theorem rlen (l : List RW.Pt) (h : l.length ≤ 1000000) : (RW.resolve l).1.length ≤ 1000000 := by
  rw [RW.resolve]
  split
  · exact Nat.le_trans (List.length_filter_le ..) h
  · refine Nat.le_trans (List.length_filter_le ..) ?_
    rw [RW.lessL, List.length_map]
    exact Nat.le_trans (List.length_filter_le ..) h
section
variable {ev : Operand → Value} {o : Oper} {x y z : Operand} {w : World}
theorem op_x1 {D : Value → World → Prop} {k : Nat} {ts : Array TypeId} {n : Value} (ho : o.op = .call ⟨.value (.func k), #[x], ts⟩) (hf : ev (.func k) = .func (.func k) #[] #[]) (hx : ev x = n) (hk : ∀ args w, (callFunc k args).run Try.prog w = .ok (.enter k args) w)
    (h : Calls Try.prog k #[n] w fun e w'' => ∃ u, e = .returned u ∧ D u w'') : XUp Try.prog D ((execOp ev o).run Try.prog w) := by
  have h1 : (execOp ev o).run Try.prog w = .ok (.enter k #[n]) w := by
    unfold execOp
    rw [ho]
    go_simp
  rw [h1]
  exact h
theorem op_x2 {D : Value → World → Prop} {k : Nat} {ts : Array TypeId} {n m : Value} (ho : o.op = .call ⟨.value (.func k), #[x, y], ts⟩) (hf : ev (.func k) = .func (.func k) #[] #[]) (hx : ev x = n) (hy : ev y = m) (hk : ∀ args w, (callFunc k args).run Try.prog w = .ok (.enter k args) w)
    (h : Calls Try.prog k #[n, m] w fun e w'' => ∃ u, e = .returned u ∧ D u w'') : XUp Try.prog D ((execOp ev o).run Try.prog w) := by
  have h1 : (execOp ev o).run Try.prog w = .ok (.enter k #[n, m]) w := by
    unfold execOp
    rw [ho]
    go_simp
  rw [h1]
  exact h
theorem op_load_sh {b : Nat} {v : Value} (ho : o.op = .load 32 x) (hx : ev x = .pointer (some ⟨b, 0, none⟩)) (hv : (ldRow 32 (.pointer (some ⟨b, 0, none⟩))).run Try.prog w = .ok v w) : (execOp ev o).run Try.prog w = .ok (.value v) w := by
  unfold execOp
  rw [ho]
  simp only [hx]
  go_simp
theorem op_pk {p : Bool} {u v r : Value} (ho : o.op = .pick x y z) (hx : ev x = .bool p) (hy : ev y = u) (hz : ev z = v) (hq : (if p = true then u else v) = r) : (execOp ev o).run Try.prog w = .ok (.value r) w := by
  unfold execOp
  rw [ho]
  simp only [hx, hy, hz]
  rw [← hq]
  go_simp
theorem op_eqb {p q r : Bool} (ho : o.op = .binOp .eql 4 x y 4) (hx : ev x = .bool p) (hy : ev y = .bool q) (hr : (p == q) = r) : (execOp ev o).run Try.prog w = .ok (.value (.bool r)) w := by
  unfold execOp
  rw [ho]
  simp only [hx, hy, ← hr]
  go_simp
end
set_option maxRecDepth 10000 in
set_option maxHeartbeats 1000000 in
theorem splitres_any (v u : Value) (l m : List RW.Pt) (q : Bool) (hl : l.length ≤ 9223372036854775807) (hm : m.length ≤ 9223372036854775807) (w : World) (hv : PartsV w v l) (hu : PartsV w u m) :
    Calls Try.prog 4 #[v, u, .bool q] w fun e w' => e = .returned (.bool true) ∧ Below w.heap.size w w' := by
  obtain ⟨L, hL⟩ : ∃ L, L = l.take 30 := ⟨_, rfl⟩
  have hLn : L.length ≤ 30 := by rw [hL, List.length_take]; omega
  have hS := hide (sane_any w)
  have hP := hide (fun W (h : PartsV W v l) => parts_any v l hl W h)
  have hP2 := hide (fun W (h : PartsV W u m) => parts_any u m hm W h)
  have hP3 := hide (fun W v (h : PartsV W v L) => parts_any v L (Nat.le_trans hLn (by decide)) W h)
  rw [← hL] at hP
  have hvH := hide hv
  have huH := hide hu
  have hmn : (m.take 30).length ≤ 30 := by rw [List.length_take]; omega
  obtain ⟨M0, hM0⟩ : ∃ M, M = m.take 30 := ⟨_, rfl⟩
  rw [← hM0] at hP2 hmn
  rw [List.take_of_length_le hLn] at hP3
  clear hv hu hL hl hm hM0
  go_enter Try.func4, Try.ntmps4
  have tok1 : True := trivial
  have tok2 : True := trivial
  go_upto_region 4 with (first
    | (go_at_call 11; refine hS.out.mono ?_; rintro e w1 ⟨rfl, hB1⟩; have hB1H := hide hB1; clear hB1)
    | (go_at_call 19; have _t := tok1; refine (hP.out _ (hvH.out.next hB1H.out)).mono ?_; rintro e w2 ⟨⟨v2, rfl, hv2⟩, hB2⟩; have hv2H := hide hv2.parts; have hB2H := hide (hB1H.out.trans (hB2.mono hB1H.out.size)); clear hv2 hB2 tok1)
    | (go_at_call 19; have _t := tok2; refine (hP2.out _ (huH.out.next hB2H.out)).mono ?_; rintro e w3 ⟨⟨v3, rfl, hv3⟩, hB3⟩; have hv3H := hide hv3.parts; have hB3H := hide (hB2H.out.trans (hB3.mono hB2H.out.size)); have hv23 := hide (hv2H.out.next hB3); clear hv3 hB3 tok2))
  have hW := hide (show PartsV w3 v2 L ∧ Below w.heap.size w w3 from ⟨hv23.out, hB3H.out⟩)
  clear hv2H hv23 hB1H hB2H hB3H
  have h30 : M0.length ≤ 30 := hmn
  cases q
  case' false =>
    go_upto_region 6 with fail
    refine gen_w (fun W => PartsV W v2 L ∧ PartsV W v3 M0 ∧ Below w.heap.size w W) ⟨hW.out.1, hv3H.out, hW.out.2⟩ ?_
    rintro w4 ⟨g1, g2, g3⟩
    obtain ⟨v4, hv4⟩ : ∃ z, z = v3 := ⟨_, rfl⟩
    obtain ⟨X, hX⟩ : ∃ z, z = M0 := ⟨_, rfl⟩
    rw [← hv4]
    rw [← hv4, ← hX] at g2
    rw [← hX] at h30
    clear hv4 hX
  case' true =>
    go_upto_region 6 with (first
      | (go_at_call 19; refine (hP3.out _ _ hW.out.1).mono ?_; rintro e w4 ⟨⟨v4, rfl, hv4⟩, hB4⟩; have hv4H := hide hv4.parts; have hB4H := hide hB4; clear hv4 hB4))
    refine gen_w (fun W => PartsV W v2 L ∧ PartsV W v4 L ∧ Below w.heap.size w W) ⟨hW.out.1.next hB4H.out, hv4H.out, hW.out.2.trans (hB4H.out.mono hW.out.2.size)⟩ ?_
    clear hv4H hB4H
    rintro w4 ⟨g1, g2, g3⟩
    obtain ⟨X, hX⟩ : ∃ z, z = L := ⟨_, rfl⟩
    rw [← hX] at g2
    have h30 : X.length ≤ 30 := by rw [hX]; exact hLn
    clear hX
  all_goals
    have hg1 := hide g1
    have hg2 := hide g2
    have hg3 := hide g3
    have hRL := hide (rlen L (by omega))
    have hRX := hide (rlen X (by omega))
    have hL6 : L.length ≤ 1000000 := by omega
    obtain ⟨R, hR⟩ : ∃ R, R = RW.resolve L := ⟨_, rfl⟩
    obtain ⟨T, hT⟩ : ∃ T, T = RW.resolve X := ⟨_, rfl⟩
    have hC1 := hide (fun W (h : PartsV W v2 L) => resolve_any v2 L hL6 W h)
    have hC3 := hide (fun W (h : PartsV W v2 L) => rresolve_any v2 L hL6 W h)
    have hC2 := hide (fun W (h : PartsV W v4 X) => resolve_any v4 X (by omega) W h)
    rw [← hR] at hRL hC1 hC3
    rw [← hT] at hRX hC2
    obtain ⟨R1, Rc, Ru⟩ := R
    obtain ⟨T1, Tc, Tu⟩ := T
    clear g1 g2 g3 hW hP hP2 hP3 hS hR hT h30 hmn hLn hL6
    go_upto_region 7 with (first
      | (go_at_call 20; refine (hC1.out _ hg1.out).mono ?_; rintro e w5 ⟨⟨v5, rfl, hv5⟩, hB5⟩; have hv5H := hide hv5.parts; have hB5H := hide hB5; clear hv5 hB5)
      | (refine wpListStoreNew rfl 32 (.tmp 8) (.tmp 19) rfl (RW.scl v5 Rc Ru) rfl rfl 32 _ (shares_size _ _ _) rfl (shares_one _ _ _ hv5H.out.one) ?_))
    obtain ⟨b5, hb5⟩ : ∃ b, b = w5.heap.size := ⟨_, rfl⟩
    have hBa := hide (hB5H.out.alloc hB5H.out.size (.cells (RW.scl v5 Rc Ru) 32))
    refine gen_w (fun W => ShAt W b5 v5 (R1, Rc, Ru) ∧ PartsV W v2 L ∧ PartsV W v4 X ∧ Below w.heap.size w W) ⟨by rw [hb5]; exact ShAt.new (s := (R1, Rc, Ru)) hv5H.out, hg1.out.next hBa.out, hg2.out.next hBa.out, hg3.out.trans (hBa.out.mono hg3.out.size)⟩ ?_
    rw [← hb5]
    clear hb5 hBa hv5H hB5H hC1 hg1 hg2 hg3
    rintro w6 ⟨g1, g2, g3, g4⟩
    have hg1 := hide g1
    have hg2 := hide g2
    have hg3 := hide g3
    have hg4 := hide g4
    clear g1 g2 g3 g4
    go_upto_region 8 with (first
      | (go_at_call 20; refine (hC2.out _ hg3.out).mono ?_; rintro e w7 ⟨⟨v6, rfl, hv6⟩, hB6⟩; have hv6H := hide hv6.parts; have hB6H := hide hB6; clear hv6 hB6)
      | (refine wpListStoreNew rfl 32 (.tmp 9) (.tmp 21) rfl (RW.scl v6 Tc Tu) rfl rfl 32 _ (shares_size _ _ _) rfl (shares_one _ _ _ hv6H.out.one) ?_))
    obtain ⟨b6, hb6⟩ : ∃ b, b = w7.heap.size := ⟨_, rfl⟩
    have hBa := hide (hB6H.out.alloc hB6H.out.size (.cells (RW.scl v6 Tc Tu) 32))
    refine gen_w (fun W => ShAt W b5 v5 (R1, Rc, Ru) ∧ ShAt W b6 v6 (T1, Tc, Tu) ∧ PartsV W v2 L ∧ Below w.heap.size w W) ⟨hg1.out.next hBa.out, by rw [hb6]; exact ShAt.new (s := (T1, Tc, Tu)) hv6H.out, hg2.out.next hBa.out, hg4.out.trans (hBa.out.mono hg4.out.size)⟩ ?_
    rw [← hb6]
    clear hb6 hBa hv6H hB6H hC2 hg1 hg2 hg3 hg4
    rintro w8 ⟨g1, g2, g3, g4⟩
    have h5a := hide g1
    have h6a := hide g2
    have hpa := hide g3
    have hga := hide g4
    clear g1 g2 g3 g4
    obtain ⟨n0, hn0e⟩ : ∃ n, n = w8.heap.size := ⟨_, rfl⟩
    have hn0 := hide hn0e
    clear hn0e
    refine wp_region_sched (fun _ W => Below n0 w8 W) [4, 5, 10, 13, 19] [0, 1, 2, 3, 4, 5, 6, 7, 8, 9, 11, 12, 10, 13, 14, 15, 16, 17, 18, 19, 20, 21] (by kernel_rfl) (by kernel_rfl) (by rfl) (by decide +kernel) (by rfl) (by kernel_rfl) ((Below.refl _ _).drew) ?_
    refine g_val (.bool true) (by apply opN; repeat' (first | apply OpAt.z | apply OpAt.s)) (by rfl) (by rfl) (fun j W _ hS => op_mv rfl rfl) ?_
    simp only [Act.put, List.setIfInBounds_toArray, List.set_cons_zero, List.set_cons_succ]
    refine g_val (.bool true) (by apply opN; repeat' (first | apply OpAt.z | apply OpAt.s)) (by rfl) (by rfl) (fun j W _ hS => op_mv rfl rfl) ?_
    simp only [Act.put, List.setIfInBounds_toArray, List.set_cons_zero, List.set_cons_succ]
    refine g_val (.agg (RW.scl v5 Rc Ru)) (by apply opN; repeat' (first | apply OpAt.z | apply OpAt.s)) (by rfl) (by rfl) (fun j W _ hS => op_load_sh rfl rfl (h5a.out.next (hn0.out ▸ hS)).ld) ?_
    simp only [Act.put, List.setIfInBounds_toArray, List.set_cons_zero, List.set_cons_succ]
    refine g_val (v2) (by apply opN; repeat' (first | apply OpAt.z | apply OpAt.s)) (by rfl) (by rfl) (fun j W _ hS => op_mv rfl rfl) ?_
    simp only [Act.put, List.setIfInBounds_toArray, List.set_cons_zero, List.set_cons_succ]
    obtain ⟨S1, hS1⟩ : ∃ S1 : Value → Nat → World → Prop, S1 = fun v7 j W => Below n0 w8 W ∧ (1 ≤ j → PartsV W v7 R1) := ⟨_, rfl⟩
    have i1 : ∀ v7 j W, S1 v7 j W → Below n0 w8 W := fun v7 j W h => by rw [hS1] at h; exact h.1
    have i2 : ∀ v7 j W, S1 v7 (j + 1) W → PartsV W v7 R1 := fun v7 j W h => by rw [hS1] at h; exact h.2 (by omega)
    have i3 : ∀ v7 j W W', S1 v7 (j + 1) W → Below W.heap.size W W' → S1 v7 (j + 2) W' := fun v7 j W W' h hB => by rw [hS1] at h ⊢; exact ⟨h.1.trans (hB.mono (Nat.le_trans (Nat.le_of_eq hn0.out) h.1.size)), fun _ => (h.2 (by omega)).next hB⟩
    refine g_step 0 (fun S' u => ∃ v7, S' = S1 v7 ∧ u = .agg (RW.scl v7 Rc Ru)) (by apply opN; repeat' (first | apply OpAt.z | apply OpAt.s)) (by rfl) (by rfl) (fun W hS => ?_) ?_
    · refine op_x1 rfl rfl rfl (fun _ _ => rfl) ((hC3.out W (hpa.out.next (hn0.out ▸ hS))).mono ?_)
      rintro e W' ⟨⟨v7, rfl, hv7⟩, hB⟩
      exact ⟨_, rfl, S1 v7, fun j W h => i1 v7 j W h, by rw [hS1]; exact ⟨Below.trans hS (hB.mono (Nat.le_trans (Nat.le_of_eq hn0.out) (Below.size hS))), fun _ => hv7.parts⟩, v7, rfl, rfl⟩
    rintro _ _ _ ⟨v7, rfl, rfl⟩
    simp only [Act.put, List.setIfInBounds_toArray, List.set_cons_zero, List.set_cons_succ]
    refine g_step 1 (fun S' u => S' = S1 v7 ∧ u = .bool true) (by apply opN; repeat' (first | apply OpAt.z | apply OpAt.s)) (by rfl) (by rfl) (fun W hS => ?_) ?_
    · have hb := i1 _ _ _ hS
      refine op_x2 rfl rfl rfl rfl (fun _ _ => rfl) ((rsame_any v5 v7 R1 R1 Rc Rc Ru Ru hRL.out hRL.out W (h5a.out.next (hn0.out ▸ hb)).parts (i2 _ _ _ hS)).mono ?_)
      rintro e W' ⟨rfl, hB⟩
      exact ⟨_, rfl, S1 v7, Sub.refl _, i3 _ _ _ _ hS hB, rfl, by simp⟩
    rintro _ _ _ ⟨rfl, rfl⟩
    simp only [Act.put, List.setIfInBounds_toArray, List.set_cons_zero, List.set_cons_succ]
    refine g_val (.bool true) (by apply opN; repeat' (first | apply OpAt.z | apply OpAt.s)) (by rfl) (by rfl) (fun j W _ hS => op_pk rfl rfl rfl rfl rfl) ?_
    simp only [Act.put, List.setIfInBounds_toArray, List.set_cons_zero, List.set_cons_succ]
    refine g_val (.bool true) (by apply opN; repeat' (first | apply OpAt.z | apply OpAt.s)) (by rfl) (by rfl) (fun j W _ hS => op_mv rfl rfl) ?_
    simp only [Act.put, List.setIfInBounds_toArray, List.set_cons_zero, List.set_cons_succ]
    refine g_val (.agg (RW.scl v5 Rc Ru)) (by apply opN; repeat' (first | apply OpAt.z | apply OpAt.s)) (by rfl) (by rfl) (fun j W _ hS => op_load_sh rfl rfl (h5a.out.next (hn0.out ▸ i1 _ _ _ hS)).ld) ?_
    simp only [Act.put, List.setIfInBounds_toArray, List.set_cons_zero, List.set_cons_succ]
    refine g_val (.agg (RW.scl v6 Tc Tu)) (by apply opN; repeat' (first | apply OpAt.z | apply OpAt.s)) (by rfl) (by rfl) (fun j W _ hS => op_load_sh rfl rfl (h6a.out.next (hn0.out ▸ i1 _ _ _ hS)).ld) ?_
    simp only [Act.put, List.setIfInBounds_toArray, List.set_cons_zero, List.set_cons_succ]
    refine g_val (.agg (RW.scl v5 Rc Ru)) (by apply opN; repeat' (first | apply OpAt.z | apply OpAt.s)) (by rfl) (by rfl) (fun j W _ hS => op_load_sh rfl rfl (h5a.out.next (hn0.out ▸ i1 _ _ _ hS)).ld) ?_
    simp only [Act.put, List.setIfInBounds_toArray, List.set_cons_zero, List.set_cons_succ]
    refine g_val (.agg (RW.scl v6 Tc Tu)) (by apply opN; repeat' (first | apply OpAt.z | apply OpAt.s)) (by rfl) (by rfl) (fun j W _ hS => op_load_sh rfl rfl (h6a.out.next (hn0.out ▸ i1 _ _ _ hS)).ld) ?_
    simp only [Act.put, List.setIfInBounds_toArray, List.set_cons_zero, List.set_cons_succ]
    refine g_step 2 (fun S' u => S' = S1 v7 ∧ u = .bool (decide ((R1, Rc, Ru) = ((T1, Tc, Tu) : RW.Sh)))) (by apply opN; repeat' (first | apply OpAt.z | apply OpAt.s)) (by rfl) (by rfl) (fun W hS => ?_) ?_
    · have hb := i1 _ _ _ hS
      refine op_x2 rfl rfl rfl rfl (fun _ _ => rfl) ((ssame_any v5 v6 R1 T1 Rc Tc Ru Tu hRL.out hRX.out W (h5a.out.next (hn0.out ▸ hb)).parts (h6a.out.next (hn0.out ▸ hb)).parts).mono ?_)
      rintro e W' ⟨rfl, hB⟩
      exact ⟨_, rfl, S1 v7, Sub.refl _, i3 _ _ _ _ hS hB, rfl, rfl⟩
    rintro _ _ _ ⟨rfl, rfl⟩
    simp only [Act.put, List.setIfInBounds_toArray, List.set_cons_zero, List.set_cons_succ]
    refine g_step 3 (fun S' u => S' = S1 v7 ∧ u = .bool (decide ((R1, Rc, Ru) = ((T1, Tc, Tu) : RW.Sh)))) (by apply opN; repeat' (first | apply OpAt.z | apply OpAt.s)) (by rfl) (by rfl) (fun W hS => ?_) ?_
    · have hb := i1 _ _ _ hS
      refine op_x2 rfl rfl rfl rfl (fun _ _ => rfl) ((rsame_any v5 v6 R1 T1 Rc Tc Ru Tu hRL.out hRX.out W (h5a.out.next (hn0.out ▸ hb)).parts (h6a.out.next (hn0.out ▸ hb)).parts).mono ?_)
      rintro e W' ⟨rfl, hB⟩
      exact ⟨_, rfl, S1 v7, Sub.refl _, i3 _ _ _ _ hS hB, rfl, rfl⟩
    rintro _ _ _ ⟨rfl, rfl⟩
    simp only [Act.put, List.setIfInBounds_toArray, List.set_cons_zero, List.set_cons_succ]
    refine g_val (.bool true) (by apply opN; repeat' (first | apply OpAt.z | apply OpAt.s)) (by rfl) (by rfl) (fun j W _ hS => op_eqb rfl rfl rfl (by simp)) ?_
    simp only [Act.put, List.setIfInBounds_toArray, List.set_cons_zero, List.set_cons_succ]
    refine g_val (.bool true) (by apply opN; repeat' (first | apply OpAt.z | apply OpAt.s)) (by rfl) (by rfl) (fun j W _ hS => op_pk rfl rfl rfl rfl rfl) ?_
    simp only [Act.put, List.setIfInBounds_toArray, List.set_cons_zero, List.set_cons_succ]
    refine g_val (.bool true) (by apply opN; repeat' (first | apply OpAt.z | apply OpAt.s)) (by rfl) (by rfl) (fun j W _ hS => op_mv rfl rfl) ?_
    simp only [Act.put, List.setIfInBounds_toArray, List.set_cons_zero, List.set_cons_succ]
    refine g_val (.agg (RW.scl v5 Rc Ru)) (by apply opN; repeat' (first | apply OpAt.z | apply OpAt.s)) (by rfl) (by rfl) (fun j W _ hS => op_load_sh rfl rfl (h5a.out.next (hn0.out ▸ i1 _ _ _ hS)).ld) ?_
    simp only [Act.put, List.setIfInBounds_toArray, List.set_cons_zero, List.set_cons_succ]
    refine g_val (.agg (RW.scl v5 Rc Ru)) (by apply opN; repeat' (first | apply OpAt.z | apply OpAt.s)) (by rfl) (by rfl) (fun j W _ hS => op_load_sh rfl rfl (h5a.out.next (hn0.out ▸ i1 _ _ _ hS)).ld) ?_
    simp only [Act.put, List.setIfInBounds_toArray, List.set_cons_zero, List.set_cons_succ]
    refine g_step 4 (fun S' u => S' = S1 v7 ∧ u = .bool true) (by apply opN; repeat' (first | apply OpAt.z | apply OpAt.s)) (by rfl) (by rfl) (fun W hS => ?_) ?_
    · have hb := i1 _ _ _ hS
      refine op_x2 rfl rfl rfl rfl (fun _ _ => rfl) ((ssame_any v5 v5 R1 R1 Rc Rc Ru Ru hRL.out hRL.out W (h5a.out.next (hn0.out ▸ hb)).parts (h5a.out.next (hn0.out ▸ hb)).parts).mono ?_)
      rintro e W' ⟨rfl, hB⟩
      exact ⟨_, rfl, S1 v7, Sub.refl _, i3 _ _ _ _ hS hB, rfl, by simp⟩
    rintro _ _ _ ⟨rfl, rfl⟩
    simp only [Act.put, List.setIfInBounds_toArray, List.set_cons_zero, List.set_cons_succ]
    refine g_val (.bool true) (by apply opN; repeat' (first | apply OpAt.z | apply OpAt.s)) (by rfl) (by rfl) (fun j W _ hS => op_pk rfl rfl rfl rfl rfl) ?_
    simp only [Act.put, List.setIfInBounds_toArray, List.set_cons_zero, List.set_cons_succ]
    refine g_val (.bool true) (by apply opN; repeat' (first | apply OpAt.z | apply OpAt.s)) (by rfl) (by rfl) (fun j W _ hS => op_asg rfl rfl) ?_
    simp only [Act.put, List.setIfInBounds_toArray, List.set_cons_zero, List.set_cons_succ]
    refine g_nil ?_
    intro W' hW'
    have hb := hide (i1 _ _ _ hW')
    clear hW'
    go_wp2
    go_ret
    exact ⟨rfl, hga.out.trans (hb.out.mono (by rw [hn0.out]; exact hga.out.size))⟩
end Go.Proofs.Ytnkdpfkmellpcaa

/-
  Package royaltylaw05: FactMatchesReference: it returns true; only new memory is written.
-/
import Derived.Test.YtpihhjpgdbcifaaDoorRef9
namespace Go.Proofs.YtpihhjpgdbcifaaDoor
open Go.RowKit RG
theorem op_eql_bool {ev : Operand → Value} {o : Oper} {x y : Operand} {m n : Bool} {w : World} (ho : o.op = .binOp .eql 4 x y 4) (hx : ev x = .bool m) (hy : ev y = .bool n) : (execOp ev o).run Tryd.prog w = .ok (.value (.bool (m == n))) w := by
  unfold execOp
  rw [ho]
  simp only [hx, hy]
  go_simp
theorem op_eql_key {ev : Operand → Value} {o : Oper} {x y : Operand} {a b c a' b' c' : Int} {w : World} (ho : o.op = .binOp .eql 28 x y 28) (hx : ev x = .agg #[.int .i64 a, .int .i64 b, .int .i64 c]) (hy : ev y = .agg #[.int .i64 a', .int .i64 b', .int .i64 c']) :
    (execOp ev o).run Tryd.prog w = .ok (.value (.bool (RW.dec (a = a' ∧ b = b' ∧ c = c')))) w := by
  have h := fun w => eql_key a b c a' b' c' w
  unfold execOp
  rw [ho]
  simp only [hx, hy, Sem.run_bind, h, Result.andThen_ok, Sem.run_pure]
  clear h
  go_simp
theorem op_eql_fact {ev : Operand → Value} {o : Oper} {x y : Operand} {f g : Nat → Int} {s u : ByteArray} {cs ds : Array Value} {w : World} (ho : o.op = .binOp .eql 23 x y 23) (hx : ev x = .agg cs) (hy : ev y = .agg ds) (hcs : cs = RW.fcells f s) (hds : ds = RW.fcells g u) :
    (execOp ev o).run Tryd.prog w = .ok (.value (.bool (RW.dec (RW.feq f g s u)))) w := by
  have h := fun w => eql_feq f g s u w
  rw [← hcs, ← hds] at h
  clear hcs hds
  unfold execOp
  rw [ho]
  simp only [hx, hy, Sem.run_bind, h, Result.andThen_ok, Sem.run_pure]
  clear h
  go_simp
theorem op_callN1 {ev : Operand → Value} {o : Oper} {x : Operand} {k : Nat} {ts : Array TypeId} {n : Value} {w : World} (ho : o.op = .call ⟨.value (.func k), #[x], ts⟩) (hf : ev (.func k) = .func (.func k) #[] #[]) (hx : ev x = n) (hk : ∀ args w, (callFunc k args).run Tryd.prog w = .ok (.enter k args) w) : (execOp ev o).run Tryd.prog w = .ok (.enter k #[n]) w := op_call1 ho hf hx hk
theorem op_call2 {ev : Operand → Value} {o : Oper} {x y : Operand} {k : Nat} {ts : Array TypeId} {n l : Value} {w : World} (ho : o.op = .call ⟨.value (.func k), #[x, y], ts⟩) (hf : ev (.func k) = .func (.func k) #[] #[]) (hx : ev x = n) (hy : ev y = l) (hk : ∀ args w, (callFunc k args).run Tryd.prog w = .ok (.enter k args) w) : (execOp ev o).run Tryd.prog w = .ok (.enter k #[n, l]) w := by
  unfold execOp
  rw [ho]
  simp only [hx, hy, hf]
  go_simp
theorem cf_cut : ∀ args w, (callFunc 13 args).run Tryd.prog w = .ok (.enter 13 args) w := fun args w => by go_simp
theorem cf_valid : ∀ args w, (callFunc 14 args).run Tryd.prog w = .ok (.enter 14 args) w := fun args w => by go_simp
theorem cf_rvalid : ∀ args w, (callFunc 15 args).run Tryd.prog w = .ok (.enter 15 args) w := fun args w => by go_simp
theorem cf_same : ∀ args w, (callFunc 16 args).run Tryd.prog w = .ok (.enter 16 args) w := fun args w => by go_simp
theorem cf_fkey : ∀ args w, (callFunc 17 args).run Tryd.prog w = .ok (.enter 17 args) w := fun args w => by go_simp
theorem cf_prev : ∀ args w, (callFunc 19 args).run Tryd.prog w = .ok (.enter 19 args) w := fun args w => by go_simp
theorem cf_rprev : ∀ args w, (callFunc 20 args).run Tryd.prog w = .ok (.enter 20 args) w := fun args w => by go_simp
set_option maxRecDepth 100000 in
set_option maxHeartbeats 4000000 in
theorem match_any (f g : Nat → Int) (s u : ByteArray) (hs : s.size ≤ 9223372036854775807) (hu : u.size ≤ 9223372036854775807) (K : Nat → Int) (ks : Array Value) (hks : RW.WsOk ks K) (a : Addr) (w : World) (hK : KLaid w ks) (hg : w.cell? ⟨0, 0, none⟩ = some (RW.eW a)) :
    Calls Tryd.prog 3 #[.agg (RW.fcells f s), .agg (RW.fcells g u)] w fun e w' => e = .returned (.bool true) ∧ Below w.heap.size w w' := by
  obtain ⟨cs, hcs⟩ : ∃ cs, cs = RW.fcells f s := ⟨_, rfl⟩
  obtain ⟨ds, hds⟩ : ∃ ds, ds = RW.fcells g u := ⟨_, rfl⟩
  have hCf := fun W => cut_any f s hs W
  have hCg := fun W => cut_any g u hu W
  obtain ⟨c, hc⟩ : ∃ c, c = RW.cutT s := ⟨_, rfl⟩
  obtain ⟨d, hd⟩ : ∃ d, d = RW.cutT u := ⟨_, rfl⟩
  have hcz : c.size ≤ 9223372036854775807 := by rw [hc]; have := RW.cutT_size s; omega
  have hdz : d.size ≤ 9223372036854775807 := by rw [hd]; have := RW.cutT_size u; omega
  obtain ⟨cc, hcc⟩ : ∃ ds, ds = RW.fcells f c := ⟨_, rfl⟩
  obtain ⟨dd, hdd⟩ : ∃ ds, ds = RW.fcells g d := ⟨_, rfl⟩
  have h1 := fun W => valid_any f c W
  have h2 := fun W => rvalid_any f c hcz W
  have h3 := fun W => same_any f g c d W
  have h4 := fun W => key_any f c W
  have h5 := fun W => rkey_any f c W
  have h6 := fun W => prev_any f g c d W
  have h7 := fun W => rprev_any f g c d hcz hdz W
  simp only [← hc, ← hcs, ← hcc] at hCf
  simp only [← hd, ← hds, ← hdd] at hCg
  simp only [← hcc, ← hdd] at h1 h2 h3 h4 h5 h6 h7
  rw [← hcs, ← hds]
  have hcsH := hide hcs; have hdsH := hide hds; have hCfH := hide hCf; have hCgH := hide hCg; have hccH := hide hcc; have hddH := hide hdd
  have h1H := hide h1; have h2H := hide h2; have h3H := hide h3; have h4H := hide h4; have h5H := hide h5; have h6H := hide h6; have h7H := hide h7
  have hKH := hide hK; have hgH := hide hg
  clear hcs hds hCf hCg hc hd hcc hdd hK hg h1 h2 h3 h4 h5 h6 h7 hcz hdz
  go_enter Tryd.func3, Tryd.ntmps3
  go_upto_region 1 with fail
  obtain ⟨b1, hb1⟩ : ∃ b, b = w.heap.size := ⟨_, rfl⟩
  obtain ⟨b2, hb2⟩ : ∃ b, b = w.heap.size + 1 := ⟨_, rfl⟩
  have hR := (FRows.new (FRows.nil (Below.refl w.heap.size w)) f s).new g u
  rw [show (w.alloc (.cells (RW.fcells f s) 23)).heap.size = b2 by rw [hb2]; simp, ← hcsH.out, ← hdsH.out, ← hb1] at hR
  rw [← hb1] at ⊢
  rw [show b1 + 1 = b2 by omega]
  have hle1H := hide (show w.heap.size ≤ b1 by omega)
  have hle2H := hide (show w.heap.size ≤ b2 by omega)
  have hbbH := hide (show b1 ≠ b2 by omega)
  refine gen_world (FRows [(b1, f, s), (b2, g, u)] w) (hR.sub (by simp)) ?_
  intro W hF
  clear hR hb1 hb2
  go_wp2_with fail
  refine (sane_any K ks hks a _ (RW.klaid hKH.out hF.below) (err_kept hgH.out hF.below)).mono ?_
  rintro e w1 ⟨rfl, hB1⟩
  have hF1 := hF.next hB1
  clear hF hB1
  go_upto_region 2 with fail
  refine wp_region_staged (fun j => FRows [(b1, f, (match j with | 0 => s | _ => c)), (b2, g, (match j with | 0 => u | 1 => u | _ => d))] w) [4, 5] (by kernel_rfl) (by kernel_rfl) (by rfl) hF1.drew ?_
  clear hF1
  refine st_op_in 0 0 (.agg cs) (by rfl) (by rfl) (.inl rfl) (.inr (by decide +kernel)) (fun j w _ hj hS => ?_) ?_
  · obtain rfl : j = 0 := by omega
    rw [op_load_fact rfl rfl (hcsH.out ▸ FRows.load (l := [(b1, f, s), (b2, g, u)]) hS b1 f s (by simp))]; exact ⟨rfl, hS⟩
  simp only [Act.put, List.setIfInBounds_toArray, List.set_cons_zero, List.set_cons_succ]
  refine st_op_in 0 0 (.agg cc) (by rfl) (by rfl) (.inl rfl) (.inr (by decide +kernel)) (fun j w _ hj hS => ?_) ?_
  · obtain rfl : j = 0 := by omega
    rw [op_call1 rfl rfl rfl cf_cut]; exact (hCfH.out w).mono fun e w' h => by obtain ⟨rfl, hB⟩ := h; exact ⟨rfl, FRows.next hS hB⟩
  simp only [Act.put, List.setIfInBounds_toArray, List.set_cons_zero, List.set_cons_succ]
  refine st_op_in 0 1 (.agg ds) (by rfl) (by rfl) (.inl rfl) (.inr (by decide +kernel)) (fun j w _ hj hS => ?_) ?_
  · rcases j with _ | _ | j
    · have hS' : FRows [(b1, f, s), (b2, g, u)] _ w := hS
      rw [op_load_fact rfl rfl (hdsH.out ▸ hS'.load b2 g u (by simp))]; exact ⟨rfl, hS⟩
    · have hS' : FRows [(b1, f, c), (b2, g, u)] _ w := hS
      rw [op_load_fact rfl rfl (hdsH.out ▸ hS'.load b2 g u (by simp))]; exact ⟨rfl, hS⟩
    · omega
  simp only [Act.put, List.setIfInBounds_toArray, List.set_cons_zero, List.set_cons_succ]
  refine st_op (.agg dd) (by rfl) (by rfl) (fun j w hj hS => ?_) ?_
  · rw [op_call1 rfl rfl rfl cf_cut]; exact (hCgH.out w).mono fun e w' h => by obtain ⟨rfl, hB⟩ := h; exact ⟨rfl, FRows.next hS hB⟩
  simp only [Act.put, List.setIfInBounds_toArray, List.set_cons_zero, List.set_cons_succ]
  refine st_step 0 undef (by rfl) (by rfl) (by decide +kernel) (fun w hS => ?_) ?_
  · have hS' : FRows [(b1, f, s), (b2, g, u)] _ w := hS
    rw [op_store_fact rfl rfl rfl (hccH.out ▸ hS'.store b1 f f s c (by simp))]
    exact ⟨rfl, hccH.out ▸ hS'.put b1 f f s c (by simp) hle1H.out [(b1, f, c), (b2, g, u)] (by have := hbbH.out; simp; omega)⟩
  simp only [Act.put]
  refine st_step 1 undef (by rfl) (by rfl) (by decide +kernel) (fun w hS => ?_) ?_
  · have hS' : FRows [(b1, f, c), (b2, g, u)] _ w := hS
    rw [op_store_fact rfl rfl rfl (hddH.out ▸ hS'.store b2 g g u d (by simp))]
    exact ⟨rfl, hddH.out ▸ hS'.put b2 g g u d (by simp) hle2H.out [(b1, f, c), (b2, g, d)] (by have := hbbH.out; simp; omega)⟩
  simp only [Act.put]
  refine st_nil ?_
  intro W2 hF2
  replace hF2 : FRows [(b1, f, c), (b2, g, d)] w W2 := hF2
  clear hle1H hle2H hbbH hCfH hCgH hcsH hdsH
  go_upto_region 3 with fail
  refine wp_region_staged (fun _ => FRows [(b1, f, c), (b2, g, d)] w) [] (by kernel_rfl) (by kernel_rfl) (by rfl) hF2.drew ?_
  clear hF2
  refine st_val (.bool true) (by rfl) (by rfl) (fun w => rfl) ?_
  simp only [Act.put, List.setIfInBounds_toArray, List.set_cons_zero, List.set_cons_succ]
  refine st_val (.bool true) (by rfl) (by rfl) (fun w => rfl) ?_
  simp only [Act.put, List.setIfInBounds_toArray, List.set_cons_zero, List.set_cons_succ]
  refine st_op (.agg cc) (by rfl) (by rfl) (fun j w _ hS => by rw [op_load_fact rfl rfl (hccH.out ▸ hS.load b1 f c (by simp))]; exact ⟨rfl, hS⟩) ?_
  simp only [Act.put, List.setIfInBounds_toArray, List.set_cons_zero, List.set_cons_succ]
  refine st_op (.bool (RW.validB f c.size)) (by rfl) (by rfl) (fun j w _ hS => by rw [op_call1 rfl rfl rfl cf_valid]; exact (h1H.out w).mono fun e w' h => by obtain ⟨rfl, hB⟩ := h; exact ⟨rfl, hS.next hB⟩) ?_
  simp only [Act.put, List.setIfInBounds_toArray, List.set_cons_zero, List.set_cons_succ]
  refine st_op (.agg cc) (by rfl) (by rfl) (fun j w _ hS => by rw [op_load_fact rfl rfl (hccH.out ▸ hS.load b1 f c (by simp))]; exact ⟨rfl, hS⟩) ?_
  simp only [Act.put, List.setIfInBounds_toArray, List.set_cons_zero, List.set_cons_succ]
  refine st_op (.bool (RW.validB f c.size)) (by rfl) (by rfl) (fun j w _ hS => by rw [op_call1 rfl rfl rfl cf_rvalid]; exact (h2H.out w).mono fun e w' h => by obtain ⟨rfl, hB⟩ := h; exact ⟨rfl, hS.next hB⟩) ?_
  simp only [Act.put, List.setIfInBounds_toArray, List.set_cons_zero, List.set_cons_succ]
  refine st_val (.bool true) (by rfl) (by rfl) (fun w => by rw [op_eql_bool rfl rfl rfl, beq_self_eq_true]) ?_
  simp only [Act.put, List.setIfInBounds_toArray, List.set_cons_zero, List.set_cons_succ]
  refine st_val (.bool true) (by rfl) (by rfl) (fun w => op_pick rfl rfl rfl rfl rfl) ?_
  simp only [Act.put, List.setIfInBounds_toArray, List.set_cons_zero, List.set_cons_succ]
  refine st_val (.bool true) (by rfl) (by rfl) (fun w => rfl) ?_
  simp only [Act.put, List.setIfInBounds_toArray, List.set_cons_zero, List.set_cons_succ]
  refine st_op (.agg cc) (by rfl) (by rfl) (fun j w _ hS => by rw [op_load_fact rfl rfl (hccH.out ▸ hS.load b1 f c (by simp))]; exact ⟨rfl, hS⟩) ?_
  simp only [Act.put, List.setIfInBounds_toArray, List.set_cons_zero, List.set_cons_succ]
  refine st_op (.agg dd) (by rfl) (by rfl) (fun j w _ hS => by rw [op_load_fact rfl rfl (hddH.out ▸ hS.load b2 g d (by simp))]; exact ⟨rfl, hS⟩) ?_
  simp only [Act.put, List.setIfInBounds_toArray, List.set_cons_zero, List.set_cons_succ]
  refine st_op (.bool (RW.dec (RW.feq f g c d))) (by rfl) (by rfl) (fun j w _ hS => by rw [op_call2 rfl rfl rfl rfl cf_same]; exact (h3H.out w).mono fun e w' h => by obtain ⟨rfl, hB⟩ := h; exact ⟨rfl, hS.next hB⟩) ?_
  simp only [Act.put, List.setIfInBounds_toArray, List.set_cons_zero, List.set_cons_succ]
  refine st_op (.agg cc) (by rfl) (by rfl) (fun j w _ hS => by rw [op_load_fact rfl rfl (hccH.out ▸ hS.load b1 f c (by simp))]; exact ⟨rfl, hS⟩) ?_
  simp only [Act.put, List.setIfInBounds_toArray, List.set_cons_zero, List.set_cons_succ]
  refine st_op (.agg dd) (by rfl) (by rfl) (fun j w _ hS => by rw [op_load_fact rfl rfl (hddH.out ▸ hS.load b2 g d (by simp))]; exact ⟨rfl, hS⟩) ?_
  simp only [Act.put, List.setIfInBounds_toArray, List.set_cons_zero, List.set_cons_succ]
  refine st_val (.bool (RW.dec (RW.feq f g c d))) (by rfl) (by rfl) (fun w => op_eql_fact rfl rfl rfl hccH.out hddH.out) ?_
  simp only [Act.put, List.setIfInBounds_toArray, List.set_cons_zero, List.set_cons_succ]
  refine st_val (.bool true) (by rfl) (by rfl) (fun w => by rw [op_eql_bool rfl rfl rfl, beq_self_eq_true]) ?_
  simp only [Act.put, List.setIfInBounds_toArray, List.set_cons_zero, List.set_cons_succ]
  refine st_val (.bool true) (by rfl) (by rfl) (fun w => op_pick rfl rfl rfl rfl rfl) ?_
  simp only [Act.put, List.setIfInBounds_toArray, List.set_cons_zero, List.set_cons_succ]
  refine st_val (.bool true) (by rfl) (by rfl) (fun w => rfl) ?_
  simp only [Act.put, List.setIfInBounds_toArray, List.set_cons_zero, List.set_cons_succ]
  refine st_op (.agg cc) (by rfl) (by rfl) (fun j w _ hS => by rw [op_load_fact rfl rfl (hccH.out ▸ hS.load b1 f c (by simp))]; exact ⟨rfl, hS⟩) ?_
  simp only [Act.put, List.setIfInBounds_toArray, List.set_cons_zero, List.set_cons_succ]
  refine st_op (.agg #[.int .i64 (f 0), .int .i64 (RW.keyV f).1, .int .i64 (RW.keyV f).2]) (by rfl) (by rfl) (fun j w _ hS => by rw [op_call1 rfl rfl rfl cf_fkey]; exact (h4H.out w).mono fun e w' h => by obtain ⟨rfl, hB⟩ := h; exact ⟨rfl, hS.next hB⟩) ?_
  simp only [Act.put, List.setIfInBounds_toArray, List.set_cons_zero, List.set_cons_succ]
  refine st_op (.agg cc) (by rfl) (by rfl) (fun j w _ hS => by rw [op_load_fact rfl rfl (hccH.out ▸ hS.load b1 f c (by simp))]; exact ⟨rfl, hS⟩) ?_
  simp only [Act.put, List.setIfInBounds_toArray, List.set_cons_zero, List.set_cons_succ]
  refine st_op (.agg #[.int .i64 (f 0), .int .i64 (RW.keyV f).1, .int .i64 (RW.keyV f).2]) (by rfl) (by rfl) (fun j w _ hS => by rw [op_call1 rfl rfl rfl cf_key]; exact (h5H.out w).mono fun e w' h => by obtain ⟨rfl, hB⟩ := h; exact ⟨rfl, hS.next hB⟩) ?_
  simp only [Act.put, List.setIfInBounds_toArray, List.set_cons_zero, List.set_cons_succ]
  refine st_val (.bool true) (by rfl) (by rfl) (fun w => by rw [op_eql_key rfl rfl rfl, RW.dec_true ⟨rfl, rfl, rfl⟩]) ?_
  simp only [Act.put, List.setIfInBounds_toArray, List.set_cons_zero, List.set_cons_succ]
  refine st_val (.bool true) (by rfl) (by rfl) (fun w => op_pick rfl rfl rfl rfl rfl) ?_
  simp only [Act.put, List.setIfInBounds_toArray, List.set_cons_zero, List.set_cons_succ]
  refine st_val (.bool true) (by rfl) (by rfl) (fun w => rfl) ?_
  simp only [Act.put, List.setIfInBounds_toArray, List.set_cons_zero, List.set_cons_succ]
  refine st_op (.agg cc) (by rfl) (by rfl) (fun j w _ hS => by rw [op_load_fact rfl rfl (hccH.out ▸ hS.load b1 f c (by simp))]; exact ⟨rfl, hS⟩) ?_
  simp only [Act.put, List.setIfInBounds_toArray, List.set_cons_zero, List.set_cons_succ]
  refine st_op (.agg dd) (by rfl) (by rfl) (fun j w _ hS => by rw [op_load_fact rfl rfl (hddH.out ▸ hS.load b2 g d (by simp))]; exact ⟨rfl, hS⟩) ?_
  simp only [Act.put, List.setIfInBounds_toArray, List.set_cons_zero, List.set_cons_succ]
  refine st_op (.bool (RW.prevB f g c d)) (by rfl) (by rfl) (fun j w _ hS => by rw [op_call2 rfl rfl rfl rfl cf_prev]; exact (h6H.out w).mono fun e w' h => by obtain ⟨rfl, hB⟩ := h; exact ⟨rfl, hS.next hB⟩) ?_
  simp only [Act.put, List.setIfInBounds_toArray, List.set_cons_zero, List.set_cons_succ]
  refine st_op (.agg cc) (by rfl) (by rfl) (fun j w _ hS => by rw [op_load_fact rfl rfl (hccH.out ▸ hS.load b1 f c (by simp))]; exact ⟨rfl, hS⟩) ?_
  simp only [Act.put, List.setIfInBounds_toArray, List.set_cons_zero, List.set_cons_succ]
  refine st_op (.agg dd) (by rfl) (by rfl) (fun j w _ hS => by rw [op_load_fact rfl rfl (hddH.out ▸ hS.load b2 g d (by simp))]; exact ⟨rfl, hS⟩) ?_
  simp only [Act.put, List.setIfInBounds_toArray, List.set_cons_zero, List.set_cons_succ]
  refine st_op (.bool (RW.prevB f g c d)) (by rfl) (by rfl) (fun j w _ hS => by rw [op_call2 rfl rfl rfl rfl cf_rprev]; exact (h7H.out w).mono fun e w' h => by obtain ⟨rfl, hB⟩ := h; exact ⟨rfl, hS.next hB⟩) ?_
  simp only [Act.put, List.setIfInBounds_toArray, List.set_cons_zero, List.set_cons_succ]
  refine st_val (.bool true) (by rfl) (by rfl) (fun w => by rw [op_eql_bool rfl rfl rfl, beq_self_eq_true]) ?_
  simp only [Act.put, List.setIfInBounds_toArray, List.set_cons_zero, List.set_cons_succ]
  refine st_val (.bool true) (by rfl) (by rfl) (fun w => op_pick rfl rfl rfl rfl rfl) ?_
  simp only [Act.put, List.setIfInBounds_toArray, List.set_cons_zero, List.set_cons_succ]
  refine st_val (.bool true) (by rfl) (by rfl) (fun w => rfl) ?_
  simp only [Act.put, List.setIfInBounds_toArray, List.set_cons_zero, List.set_cons_succ]
  refine st_nil ?_
  intro W3 hF3
  have hB := hF3.below
  clear hF3
  go_wp2_with fail
  go_ret
  exact ⟨rfl, hB⟩
end Go.Proofs.YtpihhjpgdbcifaaDoor

/-
  Package royaltylaw25: BallotMatchesReference: it returns true; only new memory is written.
-/
import Derived.Test.YtcbckcojebanaaaDoorBrtQ
import Derived.Test.YtcbckcojebanaaaDoorBr5
import Derived.Test.YtcbckcojebanaaaDoorBr4
import Derived.Test.YtcbckcojebanaaaDoorBox8
namespace Go.Proofs.YtcbckcojebanaaaDoor
open Go.RowKit RG
theorem cu_calls {D : World → Prop} {r : Result Next} {v : Value} {k : Nat} {args : Array Value} {w : World} (hr : r = .ok (.enter k args) w) (h : Calls Tryd.prog k args w fun e w' => e = .returned v ∧ D w') : CUp Tryd.prog D v r := by
  rw [hr]
  exact h
section
variable {ev : Operand → Value} {o : Oper} {x y : Operand} {w : World}
theorem op_eql_strT {m : ByteArray} (ho : o.op = .binOp .eql 9 x y 9) (hx : ev x = .string m) (hy : ev y = .string m) : (execOp ev o).run Tryd.prog w = .ok (.value (.bool true)) w := by
  rw [op_eql_str ho hx hy]; simp
theorem op_eql_errT {m : Int} (ho : o.op = .binOp .eql 27 x y 27) (hx : ev x = .int .i64 m) (hy : ev y = .int .i64 m) : (execOp ev o).run Tryd.prog w = .ok (.value (.bool true)) w := by
  rw [op_eql_errno ho hx hy]; simp
theorem op_eql_iT {m : Int} (ho : o.op = .binOp .eql 3 x y 3) (hx : ev x = .int .i64 m) (hy : ev y = .int .i64 m) : (execOp ev o).run Tryd.prog w = .ok (.value (.bool true)) w := by
  rw [op_eql_int ho hx hy]; simp
theorem op_eql_bT {m : Bool} (ho : o.op = .binOp .eql 4 x y 4) (hx : ev x = .bool m) (hy : ev y = .bool m) : (execOp ev o).run Tryd.prog w = .ok (.value (.bool true)) w := by
  unfold execOp
  rw [ho]
  simp only [hx, hy]
  go_simp
end
theorem cf_vld : ∀ args w, (callFunc 14 args).run Tryd.prog w = .ok (.enter 14 args) w := fun args w => by go_simp
theorem cf_rvld : ∀ args w, (callFunc 15 args).run Tryd.prog w = .ok (.enter 15 args) w := fun args w => by go_simp
theorem cf_same : ∀ args w, (callFunc 16 args).run Tryd.prog w = .ok (.enter 16 args) w := fun args w => by go_simp
theorem cf_rsame : ∀ args w, (callFunc 17 args).run Tryd.prog w = .ok (.enter 17 args) w := fun args w => by go_simp
theorem cf_flt : ∀ args w, (callFunc 18 args).run Tryd.prog w = .ok (.enter 18 args) w := fun args w => by go_simp
theorem cf_rflt : ∀ args w, (callFunc 19 args).run Tryd.prog w = .ok (.enter 19 args) w := fun args w => by go_simp
theorem cf_quo : ∀ args w, (callFunc 20 args).run Tryd.prog w = .ok (.enter 20 args) w := fun args w => by go_simp
theorem cf_rquo : ∀ args w, (callFunc 21 args).run Tryd.prog w = .ok (.enter 21 args) w := fun args w => by go_simp
theorem cf_pk : ∀ args w, (callFunc 22 args).run Tryd.prog w = .ok (.enter 22 args) w := fun args w => by go_simp
set_option maxRecDepth 100000 in
set_option maxHeartbeats 8000000 in
theorem bmatch_any (K : Nat → Int) (ks : Array Value) (hks : RW.WsOk ks K) (hk0 : K = RW.k0F) (a b : RW.Min) (n : Int) (hn : -9223372036854775808 ≤ n) (hn2 : n ≤ 9223372036854775807)
    (w : World) (ha : MinIn w a) (hb : MinIn w b) (hK : KLaid w ks) :
    Calls Tryd.prog 3 #[.agg (RW.mcells a.n a.d a.v), .agg (RW.mcells b.n b.d b.v), .int .i64 n] w fun e w' => e = .returned (.bool true) ∧ Below w.heap.size w w' := by
  subst hk0
  have hsn := hide (fun W (h : Below w.heap.size w W) => bsane_any RW.k0F ks hks W (bklaid hK h))
  have hKH := hide (fun W (h : Below w.heap.size w W) => bklaid hK h)
  have hf1 := hide (fun W (h : Below w.heap.size w W) => few_any a.n a.d a.v a.l W ((strsV_row ha.row).next h) ha.ln ha.sb)
  have hf2 := hide (fun W (h : Below w.heap.size w W) => few_any b.n b.d b.v b.l W ((strsV_row hb.row).next h) hb.ln hb.sb)
  have hca := msg_info a.n a.d a.v
  have hcb := msg_info b.n b.d b.v
  obtain ⟨ca, hcae⟩ : ∃ c, c = RW.mcells a.n a.d a.v := ⟨_, rfl⟩
  obtain ⟨cb, hcbe⟩ : ∃ c, c = RW.mcells b.n b.d b.v := ⟨_, rfl⟩
  rw [← hcae] at hca hf1 ⊢
  rw [← hcbe] at hcb hf2 ⊢
  have hnb := hide (And.intro hn hn2)
  have hksH := hide hks
  clear hcae hcbe hK hks ha hb hn hn2
  go_enter Tryd.func3, Tryd.ntmps3
  go_upto_region 1 with fail
  obtain ⟨b3, hb3⟩ : ∃ b, b = w.heap.size := ⟨_, rfl⟩
  obtain ⟨b4, hb4⟩ : ∃ b, b = w.heap.size + 1 := ⟨_, rfl⟩
  have hR := (MRows.new (MRows.nil (Below.refl w.heap.size w)) ca).new cb
  rw [show (w.alloc (.cells ca 24)).heap.size = b4 by rw [hb4]; simp, ← hb3] at hR
  rw [← hb3] at ⊢
  rw [show b3 + 1 = b4 by omega]
  refine gen_world (MRows [(b4, cb), (b3, ca)] w) hR ?_
  clear hR hb3 hb4
  intro w0 hF
  have hF0 := hide hF
  clear hF
  have hsan := hide (hsn.out _ hF0.out.below)
  clear hsn
  go_upto_region 2 with (go_at_call 10; refine hsan.out.mono ?_; rintro e w1 ⟨rfl, hB1⟩; have hF1 := hide (hF0.out.next hB1); clear hB1)
  have hr3 := hF1.out.rows (b3, ca) (by simp)
  have hg1 := hide (hf1.out _ hF1.out.below)
  clear hsan hF0 hf1
  go_upto_region 3 with (first
    | (refine wpList_load_row rfl 24 (.tmp 3) rfl b3 rfl 24 ca (0, 0) _ hr3 Tryd.underlying24 rfl hca ?_)
    | (go_at_call 11; refine hg1.out.mono ?_; rintro e w2 ⟨⟨u1, rfl, L1, hs1, hl1, hz1⟩, hB2⟩; have hM2 := hide (show MS [(b4, cb)] [(u1, L1)] w w2 from ⟨(hF1.out.next hB2).sub (by simp), fun p hp => by rw [List.mem_singleton] at hp; rw [hp]; exact hs1⟩); have hl1H := hide hl1; have hz1H := hide hz1; have hcx := msg_info a.n a.d u1; have hox := msg_one a.n a.d u1 hs1.one; clear hB2 hs1 hl1 hz1 hr3)
    | (refine wpList_store_new rfl 24 (.tmp 8) (.tmp 16) rfl (RW.mcells a.n a.d u1) rfl rfl 24 RW.noM hcx rfl hox ?_))
  obtain ⟨cx, hcxe⟩ : ∃ c, c = RW.mcells a.n a.d u1 := ⟨_, rfl⟩
  rw [← hcxe] at hcx ⊢
  have hM3 := hM2.out.new cx
  obtain ⟨b8, hb8⟩ : ∃ b, b = w2.heap.size := ⟨_, rfl⟩
  rw [← hb8] at hM3 ⊢
  have hcxe' := hide hcxe
  have hcxi := hide hcx
  refine gen_world (MS [(b8, cx), (b4, cb)] [(u1, L1)] w) hM3 ?_
  clear hM3 hb8 hcxe hcx hox hM2 hF1 hg1 hca
  intro w3 hM3'
  have hM3 := hide hM3'
  have hr4 := hM3'.rows.rows (b4, cb) (by simp)
  have hg2 := hide (hf2.out _ hM3'.rows.below)
  clear hM3' hf2
  go_upto_region 4 with (first
    | (refine wpList_load_row rfl 24 (.tmp 4) rfl b4 rfl 24 cb (0, 0) _ hr4 Tryd.underlying24 rfl hcb ?_)
    | (go_at_call 11; refine hg2.out.mono ?_; rintro e w4 ⟨⟨u2, rfl, L2, hs2, hl2, hz2⟩, hB4⟩; have hM4 := hide ((hM3.out.next hB4).add hs2); have hl2H := hide hl2; have hz2H := hide hz2; have hcy := msg_info b.n b.d u2; have hoy := msg_one b.n b.d u2 hs2.one; clear hB4 hs2 hl2 hz2 hr4)
    | (refine wpList_store_new rfl 24 (.tmp 9) (.tmp 18) rfl (RW.mcells b.n b.d u2) rfl rfl 24 RW.noM hcy rfl hoy ?_))
  obtain ⟨cy, hcye⟩ : ∃ c, c = RW.mcells b.n b.d u2 := ⟨_, rfl⟩
  rw [← hcye] at hcy ⊢
  have hM5 := hM4.out.new cy
  obtain ⟨b9, hb9⟩ : ∃ b, b = w4.heap.size := ⟨_, rfl⟩
  rw [← hb9] at hM5 ⊢
  have hcye' := hide hcye
  have hcyi := hide hcy
  refine gen_world (MS [(b9, cy), (b8, cx)] [(u2, L2), (u1, L1)] w) (hM5.sub (by simp) (fun p hp => hp)) ?_
  clear hM5 hb9 hcye hcy hoy hM4 hM3 hg2 hcb
  intro w5 hM5'
  have hM5 := hide hM5'
  have hr8 := hM5'.rows.rows (b8, cx) (by simp)
  clear hM5'
  obtain ⟨T, ef, hres, _⟩ := encRes_parts RW.k0F ⟨a.n, a.d, u1, L1⟩
  have hE1 := hide (show ∀ W, MS [(b9, cy), (b8, cx)] [(u2, L2), (u1, L1)] w W → Calls Tryd.prog 12 #[.agg cx] W fun e w' => e = .returned (.tuple #[.string T, .int .i64 ef]) ∧ Below W.heap.size W w' from fun W h => by
    rw [hcxe'.out, ← hres]
    exact encode_any a.n a.d u1 L1 W RW.k0F (h.strs (u1, L1) (by simp)) (by have := hl1H.out; omega) (fun s hs => by have := hz1H.out s hs; omega) ks hksH.out (hKH.out _ h.rows.below))
  have hE2 := hide (show ∀ W, MS [(b9, cy), (b8, cx)] [(u2, L2), (u1, L1)] w W → Calls Tryd.prog 13 #[.agg cx] W fun e w' => e = .returned (.tuple #[.string T, .int .i64 ef]) ∧ Below W.heap.size W w' from fun W h => by
    rw [hcxe'.out, ← hres]
    exact rencode_any a.n a.d u1 L1 W (h.strs (u1, L1) (by simp)) (by have := hl1H.out; omega) (fun s hs => by have := hz1H.out s hs; omega))
  obtain ⟨vb, hvb⟩ : ∃ v, v = RW.msgB RW.k0F a.n a.d.data.toList (RW.bl L1) := ⟨_, rfl⟩
  have hV1 := hide (show ∀ W, MS [(b9, cy), (b8, cx)] [(u2, L2), (u1, L1)] w W → Calls Tryd.prog 14 #[.agg cx] W fun e w' => e = .returned (.bool vb) ∧ Below W.heap.size W w' from fun W h => by
    rw [hcxe'.out, hvb]
    exact valid_any a.n a.d u1 L1 W RW.k0F (h.strs (u1, L1) (by simp)) (by have := hl1H.out; omega) (fun s hs => by have := hz1H.out s hs; omega) ks hksH.out (hKH.out _ h.rows.below))
  have hV2 := hide (show ∀ W, MS [(b9, cy), (b8, cx)] [(u2, L2), (u1, L1)] w W → Calls Tryd.prog 15 #[.agg cx] W fun e w' => e = .returned (.bool vb) ∧ Below W.heap.size W w' from fun W h => by
    rw [hcxe'.out, hvb]
    exact rvalid_any a.n a.d u1 L1 W (h.strs (u1, L1) (by simp)) (by have := hl1H.out; omega) (fun s hs => by have := hz1H.out s hs; omega))
  obtain ⟨sb, hsb⟩ : ∃ v, v = ((decide (L1 = L2) && decide (a.d = b.d)) && RW.dec (∀ i, i < 6 → a.n i = b.n i)) := ⟨_, rfl⟩
  have hS1 := hide (show ∀ W, MS [(b9, cy), (b8, cx)] [(u2, L2), (u1, L1)] w W → Calls Tryd.prog 16 #[.agg cx, .agg cy] W fun e w' => e = .returned (.bool sb) ∧ Below W.heap.size W w' from fun W h => by
    rw [hcxe'.out, hcye'.out, hsb]
    exact same_any a.n b.n a.d b.d u1 u2 L1 L2 W (h.strs (u1, L1) (by simp)) (h.strs (u2, L2) (by simp)) (by have := hl1H.out; omega) (by have := hl2H.out; omega))
  have hS2 := hide (show ∀ W, MS [(b9, cy), (b8, cx)] [(u2, L2), (u1, L1)] w W → Calls Tryd.prog 17 #[.agg cx, .agg cy] W fun e w' => e = .returned (.bool sb) ∧ Below W.heap.size W w' from fun W h => by
    rw [hcxe'.out, hcye'.out, hsb]
    exact rsame_any a.n b.n a.d b.d u1 u2 L1 L2 W (h.strs (u1, L1) (by simp)) (h.strs (u2, L2) (by simp)) (by have := hl1H.out; omega) (by have := hl2H.out; omega))
  have hS3 := hide (show ∀ W, MS [(b9, cy), (b8, cx)] [(u2, L2), (u1, L1)] w W → Calls Tryd.prog 16 #[.agg cx, .agg cx] W fun e w' => e = .returned (.bool true) ∧ Below W.heap.size W w' from fun W h => by
    rw [hcxe'.out]
    have := same_any a.n a.n a.d a.d u1 u1 L1 L1 W (h.strs (u1, L1) (by simp)) (h.strs (u1, L1) (by simp)) (by have := hl1H.out; omega) (by have := hl1H.out; omega)
    rw [RW.dec_true (fun i _ => rfl)] at this
    simpa using this)
  clear hres hvb hsb hKH hksH
  have hcx' := hcxi.out
  go_upto_region 5 with (first
    | (refine wpList_load_row rfl 24 (.tmp 8) rfl b8 rfl 24 cx (0, 0) _ hr8 Tryd.underlying24 rfl hcx' ?_)
    | (go_at_call 12; refine (hE1.out _ hM5.out).mono ?_; rintro e w6 ⟨rfl, hB6⟩; have hM6 := hide (hM5.out.next hB6); clear hB6 hr8))
  have hr8' := hM6.out.rows.rows (b8, cx) (by simp)
  clear hE1 hM5
  go_upto_region 6 with (first
    | (refine wpList_load_row rfl 24 (.tmp 8) rfl b8 rfl 24 cx (0, 0) _ hr8' Tryd.underlying24 rfl hcx' ?_)
    | (go_at_call 13; refine (hE2.out _ hM6.out).mono ?_; rintro e w7 ⟨rfl, hB7⟩; have hM7 := hide (hM6.out.next hB7); clear hB7 hr8'))
  clear hE2 hM6 hcx'
  refine wp_region_staged (fun _ W => MS [(b9, cy), (b8, cx)] [(u2, L2), (u1, L1)] w W) [] (by kernel_rfl) (by kernel_rfl) (by rfl) (hM7.out.next (Below.refl _ _).drew) ?_
  refine st_val (.bool true) (by rfl) (by rfl) (fun w => op_mv rfl rfl) ?_
  simp only [Act.put, List.setIfInBounds_toArray, List.set_cons_zero, List.set_cons_succ]
  refine st_val (.bool true) (by rfl) (by rfl) (fun w => op_mv rfl rfl) ?_
  simp only [Act.put, List.setIfInBounds_toArray, List.set_cons_zero, List.set_cons_succ]
  refine st_val (.string T) (by rfl) (by rfl) (fun w => op_mv rfl rfl) ?_
  simp only [Act.put, List.setIfInBounds_toArray, List.set_cons_zero, List.set_cons_succ]
  refine st_val (.string T) (by rfl) (by rfl) (fun w => op_mv rfl rfl) ?_
  simp only [Act.put, List.setIfInBounds_toArray, List.set_cons_zero, List.set_cons_succ]
  refine st_val (.bool true) (by rfl) (by rfl) (fun w => op_eql_strT rfl rfl rfl) ?_
  simp only [Act.put, List.setIfInBounds_toArray, List.set_cons_zero, List.set_cons_succ]
  refine st_val (.bool true) (by rfl) (by rfl) (fun w => op_pick rfl rfl rfl rfl rfl) ?_
  simp only [Act.put, List.setIfInBounds_toArray, List.set_cons_zero, List.set_cons_succ]
  refine st_val (.bool true) (by rfl) (by rfl) (fun w => op_mv rfl rfl) ?_
  simp only [Act.put, List.setIfInBounds_toArray, List.set_cons_zero, List.set_cons_succ]
  refine st_val (.int .i64 ef) (by rfl) (by rfl) (fun w => op_mv rfl rfl) ?_
  simp only [Act.put, List.setIfInBounds_toArray, List.set_cons_zero, List.set_cons_succ]
  refine st_val (.int .i64 ef) (by rfl) (by rfl) (fun w => op_mv rfl rfl) ?_
  simp only [Act.put, List.setIfInBounds_toArray, List.set_cons_zero, List.set_cons_succ]
  refine st_val (.bool true) (by rfl) (by rfl) (fun w => op_eql_errT rfl rfl rfl) ?_
  simp only [Act.put, List.setIfInBounds_toArray, List.set_cons_zero, List.set_cons_succ]
  refine st_val (.bool true) (by rfl) (by rfl) (fun w => op_pick rfl rfl rfl rfl rfl) ?_
  simp only [Act.put, List.setIfInBounds_toArray, List.set_cons_zero, List.set_cons_succ]
  refine st_val (.bool true) (by rfl) (by rfl) (fun w => op_mv rfl rfl) ?_
  simp only [Act.put, List.setIfInBounds_toArray, List.set_cons_zero, List.set_cons_succ]
  refine st_op (.agg cx) (by rfl) (by rfl) (fun j w0 _ hS => by rw [op_load_agg rfl rfl (MS.ld (b := b8) hS (by simp) hcxi.out)]; exact ⟨rfl, hS⟩) ?_
  simp only [Act.put, List.setIfInBounds_toArray, List.set_cons_zero, List.set_cons_succ]
  refine st_op (.bool vb) (by rfl) (by rfl) (fun j w0 _ hS => cu_calls (op_call1 rfl rfl rfl cf_vld) ((hV1.out _ hS).mono fun e w' h => ⟨h.1, MS.next hS h.2⟩)) ?_
  simp only [Act.put, List.setIfInBounds_toArray, List.set_cons_zero, List.set_cons_succ]
  refine st_op (.agg cx) (by rfl) (by rfl) (fun j w0 _ hS => by rw [op_load_agg rfl rfl (MS.ld (b := b8) hS (by simp) hcxi.out)]; exact ⟨rfl, hS⟩) ?_
  simp only [Act.put, List.setIfInBounds_toArray, List.set_cons_zero, List.set_cons_succ]
  refine st_op (.bool vb) (by rfl) (by rfl) (fun j w0 _ hS => cu_calls (op_call1 rfl rfl rfl cf_rvld) ((hV2.out _ hS).mono fun e w' h => ⟨h.1, MS.next hS h.2⟩)) ?_
  simp only [Act.put, List.setIfInBounds_toArray, List.set_cons_zero, List.set_cons_succ]
  refine st_val (.bool true) (by rfl) (by rfl) (fun w => op_eql_bT rfl rfl rfl) ?_
  simp only [Act.put, List.setIfInBounds_toArray, List.set_cons_zero, List.set_cons_succ]
  refine st_val (.bool true) (by rfl) (by rfl) (fun w => op_pick rfl rfl rfl rfl rfl) ?_
  simp only [Act.put, List.setIfInBounds_toArray, List.set_cons_zero, List.set_cons_succ]
  refine st_val (.bool true) (by rfl) (by rfl) (fun w => op_mv rfl rfl) ?_
  simp only [Act.put, List.setIfInBounds_toArray, List.set_cons_zero, List.set_cons_succ]
  refine st_op (.agg cx) (by rfl) (by rfl) (fun j w0 _ hS => by rw [op_load_agg rfl rfl (MS.ld (b := b8) hS (by simp) hcxi.out)]; exact ⟨rfl, hS⟩) ?_
  simp only [Act.put, List.setIfInBounds_toArray, List.set_cons_zero, List.set_cons_succ]
  refine st_op (.agg cy) (by rfl) (by rfl) (fun j w0 _ hS => by rw [op_load_agg rfl rfl (MS.ld (b := b9) hS (by simp) hcyi.out)]; exact ⟨rfl, hS⟩) ?_
  simp only [Act.put, List.setIfInBounds_toArray, List.set_cons_zero, List.set_cons_succ]
  refine st_op (.bool sb) (by rfl) (by rfl) (fun j w0 _ hS => cu_calls (op_call2 rfl rfl rfl rfl cf_same) ((hS1.out _ hS).mono fun e w' h => ⟨h.1, MS.next hS h.2⟩)) ?_
  simp only [Act.put, List.setIfInBounds_toArray, List.set_cons_zero, List.set_cons_succ]
  refine st_op (.agg cx) (by rfl) (by rfl) (fun j w0 _ hS => by rw [op_load_agg rfl rfl (MS.ld (b := b8) hS (by simp) hcxi.out)]; exact ⟨rfl, hS⟩) ?_
  simp only [Act.put, List.setIfInBounds_toArray, List.set_cons_zero, List.set_cons_succ]
  refine st_op (.agg cy) (by rfl) (by rfl) (fun j w0 _ hS => by rw [op_load_agg rfl rfl (MS.ld (b := b9) hS (by simp) hcyi.out)]; exact ⟨rfl, hS⟩) ?_
  simp only [Act.put, List.setIfInBounds_toArray, List.set_cons_zero, List.set_cons_succ]
  refine st_op (.bool sb) (by rfl) (by rfl) (fun j w0 _ hS => cu_calls (op_call2 rfl rfl rfl rfl cf_rsame) ((hS2.out _ hS).mono fun e w' h => ⟨h.1, MS.next hS h.2⟩)) ?_
  simp only [Act.put, List.setIfInBounds_toArray, List.set_cons_zero, List.set_cons_succ]
  refine st_val (.bool true) (by rfl) (by rfl) (fun w => op_eql_bT rfl rfl rfl) ?_
  simp only [Act.put, List.setIfInBounds_toArray, List.set_cons_zero, List.set_cons_succ]
  refine st_val (.bool true) (by rfl) (by rfl) (fun w => op_pick rfl rfl rfl rfl rfl) ?_
  simp only [Act.put, List.setIfInBounds_toArray, List.set_cons_zero, List.set_cons_succ]
  refine st_val (.bool true) (by rfl) (by rfl) (fun w => op_mv rfl rfl) ?_
  simp only [Act.put, List.setIfInBounds_toArray, List.set_cons_zero, List.set_cons_succ]
  refine st_op (.agg cx) (by rfl) (by rfl) (fun j w0 _ hS => by rw [op_load_agg rfl rfl (MS.ld (b := b8) hS (by simp) hcxi.out)]; exact ⟨rfl, hS⟩) ?_
  simp only [Act.put, List.setIfInBounds_toArray, List.set_cons_zero, List.set_cons_succ]
  refine st_op (.agg cx) (by rfl) (by rfl) (fun j w0 _ hS => by rw [op_load_agg rfl rfl (MS.ld (b := b8) hS (by simp) hcxi.out)]; exact ⟨rfl, hS⟩) ?_
  simp only [Act.put, List.setIfInBounds_toArray, List.set_cons_zero, List.set_cons_succ]
  refine st_op (.bool true) (by rfl) (by rfl) (fun j w0 _ hS => cu_calls (op_call2 rfl rfl rfl rfl cf_same) ((hS3.out _ hS).mono fun e w' h => ⟨h.1, MS.next hS h.2⟩)) ?_
  simp only [Act.put, List.setIfInBounds_toArray, List.set_cons_zero, List.set_cons_succ]
  refine st_val (.bool true) (by rfl) (by rfl) (fun w => op_pick rfl rfl rfl rfl rfl) ?_
  simp only [Act.put, List.setIfInBounds_toArray, List.set_cons_zero, List.set_cons_succ]
  refine st_val (.bool true) (by rfl) (by rfl) (fun w => op_mv rfl rfl) ?_
  simp only [Act.put, List.setIfInBounds_toArray, List.set_cons_zero, List.set_cons_succ]
  refine st_val (.int .i64 n) (by rfl) (by rfl) (fun w => op_mv rfl rfl) ?_
  simp only [Act.put, List.setIfInBounds_toArray, List.set_cons_zero, List.set_cons_succ]
  refine st_op (.int .i64 (RW.faults n)) (by rfl) (by rfl) (fun j w0 _ hS => cu_calls (op_call1 rfl rfl rfl cf_flt) ((faults_any n _).mono fun e w' h => ⟨h.1, h.2 ▸ hS⟩)) ?_
  simp only [Act.put, List.setIfInBounds_toArray, List.set_cons_zero, List.set_cons_succ]
  refine st_val (.int .i64 n) (by rfl) (by rfl) (fun w => op_mv rfl rfl) ?_
  simp only [Act.put, List.setIfInBounds_toArray, List.set_cons_zero, List.set_cons_succ]
  refine st_op (.int .i64 (RW.faults n)) (by rfl) (by rfl) (fun j w0 _ hS => cu_calls (op_call1 rfl rfl rfl cf_rflt) ((rfaults_any n _).mono fun e w' h => ⟨h.1, h.2 ▸ hS⟩)) ?_
  simp only [Act.put, List.setIfInBounds_toArray, List.set_cons_zero, List.set_cons_succ]
  refine st_val (.bool true) (by rfl) (by rfl) (fun w => op_eql_iT rfl rfl rfl) ?_
  simp only [Act.put, List.setIfInBounds_toArray, List.set_cons_zero, List.set_cons_succ]
  refine st_val (.bool true) (by rfl) (by rfl) (fun w => op_pick rfl rfl rfl rfl rfl) ?_
  simp only [Act.put, List.setIfInBounds_toArray, List.set_cons_zero, List.set_cons_succ]
  refine st_val (.bool true) (by rfl) (by rfl) (fun w => op_mv rfl rfl) ?_
  simp only [Act.put, List.setIfInBounds_toArray, List.set_cons_zero, List.set_cons_succ]
  refine st_val (.int .i64 n) (by rfl) (by rfl) (fun w => op_mv rfl rfl) ?_
  simp only [Act.put, List.setIfInBounds_toArray, List.set_cons_zero, List.set_cons_succ]
  refine st_op (.int .i64 (RW.quorum n)) (by rfl) (by rfl) (fun j w0 _ hS => cu_calls (op_call1 rfl rfl rfl cf_quo) ((quorum_any n _).mono fun e w' h => ⟨h.1, h.2 ▸ hS⟩)) ?_
  simp only [Act.put, List.setIfInBounds_toArray, List.set_cons_zero, List.set_cons_succ]
  refine st_val (.int .i64 n) (by rfl) (by rfl) (fun w => op_mv rfl rfl) ?_
  simp only [Act.put, List.setIfInBounds_toArray, List.set_cons_zero, List.set_cons_succ]
  refine st_op (.int .i64 (RW.quorum n)) (by rfl) (by rfl) (fun j w0 _ hS => cu_calls (op_call1 rfl rfl rfl cf_rquo) ((rquorum_any n _).mono fun e w' h => ⟨h.1, h.2 ▸ hS⟩)) ?_
  simp only [Act.put, List.setIfInBounds_toArray, List.set_cons_zero, List.set_cons_succ]
  refine st_val (.bool true) (by rfl) (by rfl) (fun w => op_eql_iT rfl rfl rfl) ?_
  simp only [Act.put, List.setIfInBounds_toArray, List.set_cons_zero, List.set_cons_succ]
  refine st_val (.bool true) (by rfl) (by rfl) (fun w => op_pick rfl rfl rfl rfl rfl) ?_
  simp only [Act.put, List.setIfInBounds_toArray, List.set_cons_zero, List.set_cons_succ]
  refine st_val (.bool true) (by rfl) (by rfl) (fun w => op_mv rfl rfl) ?_
  simp only [Act.put, List.setIfInBounds_toArray, List.set_cons_zero, List.set_cons_succ]
  refine st_val (.int .i64 n) (by rfl) (by rfl) (fun w => op_mv rfl rfl) ?_
  simp only [Act.put, List.setIfInBounds_toArray, List.set_cons_zero, List.set_cons_succ]
  refine st_op (.int .i64 (RW.pickI n 9)) (by rfl) (by rfl) (fun j w0 _ hS => cu_calls (op_call2 rfl rfl rfl rfl cf_pk) ((pick_any n 9 hnb.out.1 hnb.out.2 (by decide) (by decide) _).mono fun e w' h => ⟨h.1, h.2 ▸ hS⟩)) ?_
  simp only [Act.put, List.setIfInBounds_toArray, List.set_cons_zero, List.set_cons_succ]
  refine st_op (.int .i64 (RW.quorum (RW.pickI n 9))) (by rfl) (by rfl) (fun j w0 _ hS => cu_calls (op_call1 rfl rfl rfl cf_quo) ((quorum_any (RW.pickI n 9) _).mono fun e w' h => ⟨h.1, h.2 ▸ hS⟩)) ?_
  simp only [Act.put, List.setIfInBounds_toArray, List.set_cons_zero, List.set_cons_succ]
  refine st_val (.int .i64 n) (by rfl) (by rfl) (fun w => op_mv rfl rfl) ?_
  simp only [Act.put, List.setIfInBounds_toArray, List.set_cons_zero, List.set_cons_succ]
  refine st_op (.int .i64 (RW.pickI n 9)) (by rfl) (by rfl) (fun j w0 _ hS => cu_calls (op_call2 rfl rfl rfl rfl cf_pk) ((pick_any n 9 hnb.out.1 hnb.out.2 (by decide) (by decide) _).mono fun e w' h => ⟨h.1, h.2 ▸ hS⟩)) ?_
  simp only [Act.put, List.setIfInBounds_toArray, List.set_cons_zero, List.set_cons_succ]
  refine st_op (.int .i64 (RW.quorum (RW.pickI n 9))) (by rfl) (by rfl) (fun j w0 _ hS => cu_calls (op_call1 rfl rfl rfl cf_rquo) ((rquorum_any (RW.pickI n 9) _).mono fun e w' h => ⟨h.1, h.2 ▸ hS⟩)) ?_
  simp only [Act.put, List.setIfInBounds_toArray, List.set_cons_zero, List.set_cons_succ]
  refine st_val (.bool true) (by rfl) (by rfl) (fun w => op_eql_iT rfl rfl rfl) ?_
  simp only [Act.put, List.setIfInBounds_toArray, List.set_cons_zero, List.set_cons_succ]
  refine st_val (.bool true) (by rfl) (by rfl) (fun w => op_pick rfl rfl rfl rfl rfl) ?_
  simp only [Act.put, List.setIfInBounds_toArray, List.set_cons_zero, List.set_cons_succ]
  refine st_val (.bool true) (by rfl) (by rfl) (fun w => op_asg rfl rfl) ?_
  simp only [Act.put, List.setIfInBounds_toArray, List.set_cons_zero, List.set_cons_succ]
  refine st_nil ?_
  intro W9 hS9
  have hend := hide (MS.rows hS9).below
  clear hS9
  go_wp2
  go_ret
  exact ⟨rfl, hend.out⟩
end Go.Proofs.YtcbckcojebanaaaDoor

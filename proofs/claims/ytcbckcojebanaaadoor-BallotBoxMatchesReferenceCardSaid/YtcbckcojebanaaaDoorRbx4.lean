/-
  Package royaltyref25: Add: what it does to a box; else only new memory is written.
-/
import Derived.Test.YtcbckcojebanaaaDoorRbx1
namespace Go.Proofs.YtcbckcojebanaaaDoor
open Go.RowKit RG
/-- block rb and the row of the value v may have been written, and new memory -/
structure KeptR (rb : Nat) (v : Value) (w w' : World) : Prop where
  os : w'.os = w.os
  tape : w'.tape = w.tape
  output : w'.output = w.output
  size : w.heap.size ≤ w'.heap.size
  block : ∀ k, k < w.heap.size → k ≠ rb → v.ownBlock ≠ some k → w'.heap[k]? = w.heap[k]?
theorem KeptR.of_below {rb : Nat} {v : Value} {w w' : World} (h : Below w.heap.size w w') : KeptR rb v w w' := ⟨h.os, h.tape, h.output, h.size, fun k hk _ _ => h.block k hk⟩
theorem KeptR.more {rb : Nat} {v : Value} {w w' w2 : World} (h : KeptR rb v w w') (hB : Below w'.heap.size w' w2) : KeptR rb v w w2 :=
  ⟨hB.os.trans h.os, hB.tape.trans h.tape, hB.output.trans h.output, Nat.le_trans h.size hB.size, fun k hk h1 h2 => (hB.block k (Nat.lt_of_lt_of_le hk h.size)).trans (h.block k hk h1 h2)⟩
theorem KeptR.grown {rb : Nat} {v : Value} {w w' w2 : World} (h : KeptR rb v w w') (hg : w'.grownBy w2 v.ownBlock) : KeptR rb v w w2 :=
  ⟨hg.os.trans h.os, hg.tape.trans h.tape, hg.output.trans h.output, Nat.le_trans h.size hg.size, fun k hk h1 h2 => (hg.block k (Nat.lt_of_lt_of_le hk h.size) (Ne.symm h2)).trans (h.block k hk h1 h2)⟩
theorem KeptR.setCell {rb : Nat} {v : Value} {w w' : World} (h : KeptR rb v w w') (i : Nat) (u : Value) : KeptR rb v w (w'.setCell ⟨rb, i, none⟩ u) :=
  ⟨h.os, h.tape, h.output, by simpa [World.setCell] using h.size, fun k hk h1 h2 => (Below.heap_setCell _ _ _ _ h1).trans (h.block k hk h1 h2)⟩
theorem KeptR.first {rb : Nat} {v : Value} {w w' w2 : World} (hB : Below w.heap.size w w') (h : KeptR rb v w' w2) : KeptR rb v w w2 :=
  ⟨h.os.trans hB.os, h.tape.trans hB.tape, h.output.trans hB.output, Nat.le_trans hB.size h.size, fun k hk h1 h2 => (h.block k (Nat.lt_of_lt_of_le hk hB.size) h1 h2).trans (hB.block k hk)⟩
section
variable {ev : Operand → Value} {o : Oper} {x y z : Operand} {w : World}
theorem op_far0 {b : Nat} (ho : o.op = .fieldAddr 92 x 0) (hx : ev x = .pointer (some ⟨b, 0, none⟩)) : (execOp ev o).run Tryd.prog w = .ok (.value (.pointer (some ⟨b, 0, none⟩))) w := by
  unfold execOp
  rw [ho]
  simp only [hx]
  go_simp
theorem op_far1 {b : Nat} (ho : o.op = .fieldAddr 92 x 1) (hx : ev x = .pointer (some ⟨b, 0, none⟩)) : (execOp ev o).run Tryd.prog w = .ok (.value (.pointer (some ⟨b, 1, none⟩))) w := by
  unfold execOp
  rw [ho]
  simp only [hx]
  go_simp
theorem op_load_ms {b i : Nat} {p : Option Addr} {n c : Nat} (ho : o.op = .load 43 x) (hx : ev x = .pointer (some ⟨b, i, none⟩)) (hc : w.cell? ⟨b, i, none⟩ = some (.slice p n c)) : (execOp ev o).run Tryd.prog w = .ok (.value (.slice p n c)) w := by
  unfold execOp
  rw [ho]
  simp only [hx]
  go_simp
theorem op_bs_m1 {cx : Array Value} {n : Nat → Int} {d : ByteArray} {v : Value} (ho : o.op = .buildSlice 43 1 #[(0, x)]) (hx : ev x = .agg cx) (ex : cx = RW.mcells n d v) :
    (execOp ev o).run Tryd.prog w = .ok (.value (.slice (some ⟨w.heap.size, 0, none⟩) 1 1)) (w.alloc (.cells (RW.mcells n d v) 24)) := by
  subst ex
  unfold execOp
  rw [ho]
  unfold RW.mcells at hx ⊢
  go_simp
theorem op_store_ms {b i : Nat} {p q : Option Addr} {n c n2 c2 : Nat} (ho : o.op = .store 43 x y) (hx : ev x = .pointer (some ⟨b, i, none⟩)) (hy : ev y = .slice p n c) (hc : w.cell? ⟨b, i, none⟩ = some (.slice q n2 c2)) (hf : w.frozen? ⟨b, i, none⟩ = false) :
    (execOp ev o).run Tryd.prog w = .ok .skip (w.setCell ⟨b, i, none⟩ (.slice p n c)) := by
  unfold execOp
  rw [ho]
  simp only [hx, hy]
  go_simp
theorem op_app_m {v y' v' : Value} {W' : World} (ho : o.op = .call { callee := .builtin .append, args := #[x, y], argTypes := #[43, 43] }) (ht : o.type = 43) (hx : ev x = v) (hy : ev y = y')
    (hr : (Builtin.append_ #[43, 43] 43 #[v, y']).run Tryd.prog w = .ok v' W') : (execOp ev o).run Tryd.prog w = .ok (.value v') W' := by
  unfold execOp
  simp only [ho, resolve, invoke, builtin, Sem.run_bind, Sem.run_pure, Result.andThen_ok, List.map_toArray, List.map_cons, List.map_nil, hx, hy, ht, hr]
end
namespace RW
theorem hasK_take {k : Vk} {l : List (Vk × ByteArray)} {j : Nat} (h : hasK k (l.take j) = true) : hasK k l = true := by
  unfold hasK at h ⊢
  rw [List.any_eq_true] at h ⊢
  obtain ⟨x, hx, h2⟩ := h
  exact ⟨x, List.mem_of_mem_take hx, h2⟩
theorem hasK_snoc (k : Vk) (l : List (Vk × ByteArray)) (x : Mx) : hasK k (l ++ [mxp x]) = (hasK k l || ((((x.1 1 == k.1) && (x.1 0 == k.2.1)) && (x.1 3 == k.2.2.1)) && (x.1 4 == k.2.2.2))) := by
  unfold hasK
  rw [List.any_append, List.any_cons, List.any_nil, Bool.or_false]
  congr 1
  obtain ⟨a, b, c, e⟩ := k
  unfold mxp vk
  simp only [Prod.mk.injEq]
  by_cases h0 : x.1 1 = a <;> by_cases h1 : x.1 0 = b <;> by_cases h2 : x.1 3 = c <;> by_cases h3 : x.1 4 = e <;> simp [h0, h1, h2, h3]
end RW
set_option maxRecDepth 100000 in
set_option maxHeartbeats 20000000 in
theorem radd_any {W : World} {rb : Nat} {N : Int} {vb : Value} {Lx : List RW.Mx} (h : RBx W rb N vb Lx) (hl : Lx.length ≤ 1000) (n : Nat → Int) (d : ByteArray) (v : Value) (ls : List ByteArray) (hv : StrsV W v ls) (hls : ls.length ≤ 140737488355328) (hss : ∀ s ∈ ls, s.size ≤ 9223372036854775807) :
    Calls Tryd.prog 32 #[.pointer (some ⟨rb, 0, none⟩), .agg (RW.mcells n d v)] W fun e w' => e = .returned (.bool (RW.addOk (RW.voteOk RW.k0F N n d.data.toList (RW.bl ls)) (RW.vk n) (Lx.map RW.mxp))) ∧
      (∃ vb' Lx', RBx w' rb N vb' Lx' ∧ Lx'.map RW.mxp = RW.addL (RW.voteOk RW.k0F N n d.data.toList (RW.bl ls)) (RW.vk n) d (Lx.map RW.mxp) ∧ Lx'.length ≤ Lx.length + 1) ∧ KeptR rb vb W w' := by
  obtain ⟨av, cv, rfl⟩ := own_fm h.own
  have hown := hide (fun g (hg : (Value.slice av Lx.length cv).ownBlock = some g) => (own_block h.own hg))
  have hH := hide (fun W' (hB : Below W.heap.size W W') => h.next hB)
  have hval := hide (fun W' (hB : Below W.heap.size W W') => rvalid_any n d v ls W' (hv.next hB) hls hss)
  obtain ⟨a, c, rfl, _⟩ := hv
  obtain ⟨nls, hnls⟩ : ∃ m, m = ls.length := ⟨_, rfl⟩
  rw [← hnls] at hval ⊢
  obtain ⟨nl, hnl⟩ : ∃ n, n = Lx.length := ⟨_, rfl⟩
  have hnlH := hide hnl
  obtain ⟨LL, hLL⟩ : ∃ L, L = Lx.map RW.mxp := ⟨_, rfl⟩
  have hLLH := hide hLL
  rw [← hLL]
  rw [← hnl] at hown hH hl ⊢
  obtain ⟨vd, hvd⟩ : ∃ q, q = RW.msgB RW.k0F n d.data.toList (RW.bl ls) := ⟨_, rfl⟩
  rw [← hvd] at hval
  have hok := hide (show RW.voteOk RW.k0F N n d.data.toList (RW.bl ls) = ((RW.voteK (n 0) && vd) && !decide (N ≤ n 1)) by rw [RW.voteOk, ← hvd])
  obtain ⟨ok, hoke⟩ : ∃ q, q = RW.voteOk RW.k0F N n d.data.toList (RW.bl ls) := ⟨_, rfl⟩
  rw [← hoke] at hok ⊢
  have hnoth := hide (show ok = false → ∀ w', Below W.heap.size W w' → (∃ vb' Lx', RBx w' rb N vb' Lx' ∧ Lx'.map RW.mxp = RW.addL ok (RW.vk n) d LL ∧ Lx'.length ≤ nl + 1) ∧ KeptR rb (.slice av nl cv) W w' from fun hf w' hB => ⟨⟨_, Lx, hH.out w' hB, by rw [hf, ← hLLH.out]; rfl, by rw [hnlH.out]; exact Nat.le_succ _⟩, KeptR.of_below hB⟩)
  have hdup := hide (show RW.hasK (RW.vk n) LL = true → ∀ w', Below W.heap.size W w' → (∃ vb' Lx', RBx w' rb N vb' Lx' ∧ Lx'.map RW.mxp = RW.addL ok (RW.vk n) d LL ∧ Lx'.length ≤ nl + 1) ∧ KeptR rb (.slice av nl cv) W w' from fun hf w' hB => ⟨⟨_, Lx, hH.out w' hB, by rw [RW.addL, RW.addOk, hf, ← hLLH.out]; simp, by rw [hnlH.out]; exact Nat.le_succ _⟩, KeptR.of_below hB⟩)
  clear h hnl hLL hoke hvd hnls hls hss
  have hci := msg_info n d (.slice a nls c)
  go_enter Tryd.func32, Tryd.ntmps32
  go_upto_region 1 with fail
  obtain ⟨b3, hb3⟩ : ∃ b, b = W.heap.size := ⟨_, rfl⟩
  rw [← hb3]
  have hb3H := hide hb3
  refine gen_world (fun W' => Below W.heap.size W W' ∧ W'.heap[b3]? = some (.cells (RW.mcells n d (.slice a nls c)) 24 (0, 0))) ⟨(Below.refl _ _).alloc (Nat.le_refl _) _, by rw [hb3]; exact heap_alloc_new _ _⟩ ?_
  clear hb3
  rintro w1 ⟨hB1, hr3⟩
  have hV1 := hide (hval.out w1 hB1)
  have hB1H := hide hB1
  clear hB1 hval
  go_upto_region 2 with (first
    | (refine wpList_load_row rfl 24 (.tmp 3) rfl b3 rfl 24 (RW.mcells n d (.slice a nls c)) (0, 0) _ hr3 Tryd.underlying24 rfl hci ?_)
    | (go_at_call 15; refine hV1.out.mono ?_; rintro e w2 ⟨rfl, hB2⟩; have hC0 := hide (show Below W.heap.size W w2.drew ∧ w2.drew.heap[b3]? = some (.cells (RW.mcells n d (.slice a nls c)) 24 (0, 0)) from ⟨(hB1H.out.trans (hB2.mono hB1H.out.size)).drew, (hB2.block _ (Array.getElem?_eq_some_iff.1 hr3).1).trans hr3⟩); clear hB2 hr3))
  clear hV1 hB1H hci
  cases vd
  · have hof : ok = false := by rw [hok.out]; simp
    refine wp_region_k (fun _ W' => Below W.heap.size W W' ∧ W'.heap[b3]? = some (.cells (RW.mcells n d (.slice a nls c)) 24 (0, 0))) (fun _ => True) [] (.op 0 (.op 1 (.op 2 (.op 3 (.op 4 (.op 5 (.op 6 (.op 7 (.op 8 (.op 9 (.op 10 (.op 11 (.op 12 (.op 13 (.op 14 (.op 15 (.op 16 (.op 17 (.op 18 (.op 19 (.op 20 (.op 21 (.op 22 (.op 23 (.op 24 (.op 25 .nil)))))))))))))))))))))))))) (by kernel_rfl) (by kernel_rfl) (by rfl) (by kernel_rfl) hC0.out trivial ?_
    refine k_val (.bool false) (by apply opN; repeat' (first | apply OpAt.z | apply OpAt.s)) (by rfl) (by rfl) (fun _ W hS => op_mv rfl rfl) ?_
    simp only [Act.put, List.setIfInBounds_toArray, List.set_cons_zero, List.set_cons_succ]
    refine k_val (.bool true) (by apply opN; repeat' (first | apply OpAt.z | apply OpAt.s)) (by rfl) (by rfl) (fun _ W hS => op_not (p := false) rfl rfl) ?_
    simp only [Act.put, List.setIfInBounds_toArray, List.set_cons_zero, List.set_cons_succ]
    refine k_val (.bool true) (by apply opN; repeat' (first | apply OpAt.z | apply OpAt.s)) (by rfl) (by rfl) (fun _ W hS => op_mv rfl rfl) ?_
    simp only [Act.put, List.setIfInBounds_toArray, List.set_cons_zero, List.set_cons_succ]
    refine k_skip (by apply opN; repeat' (first | apply OpAt.z | apply OpAt.s)) (by rfl) (by rfl) ?_
    simp only [Act.put, List.setIfInBounds_toArray, List.set_cons_zero, List.set_cons_succ]
    refine k_skip (by apply opN; repeat' (first | apply OpAt.z | apply OpAt.s)) (by rfl) (by rfl) ?_
    simp only [Act.put, List.setIfInBounds_toArray, List.set_cons_zero, List.set_cons_succ]
    refine k_skip (by apply opN; repeat' (first | apply OpAt.z | apply OpAt.s)) (by rfl) (by rfl) ?_
    simp only [Act.put, List.setIfInBounds_toArray, List.set_cons_zero, List.set_cons_succ]
    refine k_skip (by apply opN; repeat' (first | apply OpAt.z | apply OpAt.s)) (by rfl) (by rfl) ?_
    simp only [Act.put, List.setIfInBounds_toArray, List.set_cons_zero, List.set_cons_succ]
    refine k_skip (by apply opN; repeat' (first | apply OpAt.z | apply OpAt.s)) (by rfl) (by rfl) ?_
    simp only [Act.put, List.setIfInBounds_toArray, List.set_cons_zero, List.set_cons_succ]
    refine k_skip (by apply opN; repeat' (first | apply OpAt.z | apply OpAt.s)) (by rfl) (by rfl) ?_
    simp only [Act.put, List.setIfInBounds_toArray, List.set_cons_zero, List.set_cons_succ]
    refine k_skip (by apply opN; repeat' (first | apply OpAt.z | apply OpAt.s)) (by rfl) (by rfl) ?_
    simp only [Act.put, List.setIfInBounds_toArray, List.set_cons_zero, List.set_cons_succ]
    refine k_skip (by apply opN; repeat' (first | apply OpAt.z | apply OpAt.s)) (by rfl) (by rfl) ?_
    simp only [Act.put, List.setIfInBounds_toArray, List.set_cons_zero, List.set_cons_succ]
    refine k_skip (by apply opN; repeat' (first | apply OpAt.z | apply OpAt.s)) (by rfl) (by rfl) ?_
    simp only [Act.put, List.setIfInBounds_toArray, List.set_cons_zero, List.set_cons_succ]
    refine k_skip (by apply opN; repeat' (first | apply OpAt.z | apply OpAt.s)) (by rfl) (by rfl) ?_
    simp only [Act.put, List.setIfInBounds_toArray, List.set_cons_zero, List.set_cons_succ]
    refine k_skip (by apply opN; repeat' (first | apply OpAt.z | apply OpAt.s)) (by rfl) (by rfl) ?_
    simp only [Act.put, List.setIfInBounds_toArray, List.set_cons_zero, List.set_cons_succ]
    refine k_skip (by apply opN; repeat' (first | apply OpAt.z | apply OpAt.s)) (by rfl) (by rfl) ?_
    simp only [Act.put, List.setIfInBounds_toArray, List.set_cons_zero, List.set_cons_succ]
    refine k_skip (by apply opN; repeat' (first | apply OpAt.z | apply OpAt.s)) (by rfl) (by rfl) ?_
    simp only [Act.put, List.setIfInBounds_toArray, List.set_cons_zero, List.set_cons_succ]
    refine k_val (.bool true) (by apply opN; repeat' (first | apply OpAt.z | apply OpAt.s)) (by rfl) (by rfl) (fun _ W hS => op_pick rfl rfl rfl rfl rfl) ?_
    simp only [Act.put, List.setIfInBounds_toArray, List.set_cons_zero, List.set_cons_succ]
    refine k_val (.bool true) (by apply opN; repeat' (first | apply OpAt.z | apply OpAt.s)) (by rfl) (by rfl) (fun _ W hS => op_mv rfl rfl) ?_
    simp only [Act.put, List.setIfInBounds_toArray, List.set_cons_zero, List.set_cons_succ]
    refine k_skip (by apply opN; repeat' (first | apply OpAt.z | apply OpAt.s)) (by rfl) (by rfl) ?_
    simp only [Act.put, List.setIfInBounds_toArray, List.set_cons_zero, List.set_cons_succ]
    refine k_skip (by apply opN; repeat' (first | apply OpAt.z | apply OpAt.s)) (by rfl) (by rfl) ?_
    simp only [Act.put, List.setIfInBounds_toArray, List.set_cons_zero, List.set_cons_succ]
    refine k_skip (by apply opN; repeat' (first | apply OpAt.z | apply OpAt.s)) (by rfl) (by rfl) ?_
    simp only [Act.put, List.setIfInBounds_toArray, List.set_cons_zero, List.set_cons_succ]
    refine k_skip (by apply opN; repeat' (first | apply OpAt.z | apply OpAt.s)) (by rfl) (by rfl) ?_
    simp only [Act.put, List.setIfInBounds_toArray, List.set_cons_zero, List.set_cons_succ]
    refine k_skip (by apply opN; repeat' (first | apply OpAt.z | apply OpAt.s)) (by rfl) (by rfl) ?_
    simp only [Act.put, List.setIfInBounds_toArray, List.set_cons_zero, List.set_cons_succ]
    refine k_skip (by apply opN; repeat' (first | apply OpAt.z | apply OpAt.s)) (by rfl) (by rfl) ?_
    simp only [Act.put, List.setIfInBounds_toArray, List.set_cons_zero, List.set_cons_succ]
    refine k_skip (by apply opN; repeat' (first | apply OpAt.z | apply OpAt.s)) (by rfl) (by rfl) ?_
    simp only [Act.put, List.setIfInBounds_toArray, List.set_cons_zero, List.set_cons_succ]
    refine k_val (.bool true) (by apply opN; repeat' (first | apply OpAt.z | apply OpAt.s)) (by rfl) (by rfl) (fun _ W hS => op_pick rfl rfl rfl rfl rfl) ?_
    simp only [Act.put, List.setIfInBounds_toArray, List.set_cons_zero, List.set_cons_succ]
    refine k_nil ?_
    intro w4 hC4 _
    have hend := hide (hnoth.out hof w4 hC4.1)
    clear hC4
    go_wp2
    go_ret
    exact ⟨by rw [RW.addOk, hof] <;> rfl, hend.out⟩
  · by_cases hkv : n 0 = 4 ∨ n 0 = 5 ∨ n 0 = 6
    · have hvk : RW.voteK (n 0) = true := by unfold RW.voteK; rw [decide_eq_true_eq]; omega
      have hokN := hide (show ok = !decide (N ≤ n 1) by rw [hok.out, hvk]; rfl)
      obtain ⟨fr, hfr⟩ : ∃ q, q = decide (N ≤ n 1) := ⟨_, rfl⟩
      rw [← hfr] at hokN
      have hfrH := hide hfr
      clear hvk hfr hok
      go_cut [35] (fun s wx => s = .bool fr ∧ Below W.heap.size W wx ∧ wx.heap[b3]? = some (.cells (RW.mcells n d (.slice a nls c)) 24 (0, 0)))
      case first =>
        rcases hkv with hk | hk | hk
        · have hk4 := hide (show (n 0 != 4) = false by rw [hk]; rfl)
          have hk5 := hide (show (n 0 != 5) = true by rw [hk]; rfl)
          have hk6 := hide (show (n 0 != 6) = true by rw [hk]; rfl)
          clear hk
          refine wp_region_k (fun _ W' => Below W.heap.size W W' ∧ W'.heap[b3]? = some (.cells (RW.mcells n d (.slice a nls c)) 24 (0, 0))) (fun _ => True) [] (.op 0 (.op 1 (.op 2 (.op 3 (.op 4 (.op 5 (.op 6 (.op 7 (.op 8 (.op 9 (.op 10 (.op 11 (.op 12 (.op 13 (.op 14 (.op 15 (.op 16 (.op 17 (.op 18 (.op 19 (.op 20 (.op 21 (.op 22 (.op 23 (.op 24 (.op 25 .nil)))))))))))))))))))))))))) (by kernel_rfl) (by kernel_rfl) (by rfl) (by kernel_rfl) hC0.out trivial ?_
          refine k_val (.bool true) (by apply opN; repeat' (first | apply OpAt.z | apply OpAt.s)) (by rfl) (by rfl) (fun _ W hS => op_mv rfl rfl) ?_
          simp only [Act.put, List.setIfInBounds_toArray, List.set_cons_zero, List.set_cons_succ]
          refine k_val (.bool false) (by apply opN; repeat' (first | apply OpAt.z | apply OpAt.s)) (by rfl) (by rfl) (fun _ W hS => op_not (p := true) rfl rfl) ?_
          simp only [Act.put, List.setIfInBounds_toArray, List.set_cons_zero, List.set_cons_succ]
          refine k_val (.bool false) (by apply opN; repeat' (first | apply OpAt.z | apply OpAt.s)) (by rfl) (by rfl) (fun _ W hS => op_mv rfl rfl) ?_
          simp only [Act.put, List.setIfInBounds_toArray, List.set_cons_zero, List.set_cons_succ]
          refine k_val (.pointer (some ⟨b3, 0, none⟩)) (by apply opN; repeat' (first | apply OpAt.z | apply OpAt.s)) (by rfl) (by rfl) (fun _ W hS => op_fa_0 rfl rfl) ?_
          simp only [Act.put, List.setIfInBounds_toArray, List.set_cons_zero, List.set_cons_succ]
          refine k_val (.int .i64 (n 0)) (by apply opN; repeat' (first | apply OpAt.z | apply OpAt.s)) (by rfl) (by rfl) (fun _ W hS => op_load_int rfl rfl ((cell_at hS.2 0).trans rfl)) ?_
          simp only [Act.put, List.setIfInBounds_toArray, List.set_cons_zero, List.set_cons_succ]
          refine k_val (.bool false) (by apply opN; repeat' (first | apply OpAt.z | apply OpAt.s)) (by rfl) (by rfl) (fun _ W hS => (op_neq_int rfl rfl rfl).trans (by rw [hk4.out])) ?_
          simp only [Act.put, List.setIfInBounds_toArray, List.set_cons_zero, List.set_cons_succ]
          refine k_val (.bool false) (by apply opN; repeat' (first | apply OpAt.z | apply OpAt.s)) (by rfl) (by rfl) (fun _ W hS => op_mv rfl rfl) ?_
          simp only [Act.put, List.setIfInBounds_toArray, List.set_cons_zero, List.set_cons_succ]
          refine k_skip (by apply opN; repeat' (first | apply OpAt.z | apply OpAt.s)) (by rfl) (by rfl) ?_
          simp only [Act.put, List.setIfInBounds_toArray, List.set_cons_zero, List.set_cons_succ]
          refine k_skip (by apply opN; repeat' (first | apply OpAt.z | apply OpAt.s)) (by rfl) (by rfl) ?_
          simp only [Act.put, List.setIfInBounds_toArray, List.set_cons_zero, List.set_cons_succ]
          refine k_skip (by apply opN; repeat' (first | apply OpAt.z | apply OpAt.s)) (by rfl) (by rfl) ?_
          simp only [Act.put, List.setIfInBounds_toArray, List.set_cons_zero, List.set_cons_succ]
          refine k_val (.bool false) (by apply opN; repeat' (first | apply OpAt.z | apply OpAt.s)) (by rfl) (by rfl) (fun _ W hS => op_pick rfl rfl rfl rfl rfl) ?_
          simp only [Act.put, List.setIfInBounds_toArray, List.set_cons_zero, List.set_cons_succ]
          refine k_val (.bool false) (by apply opN; repeat' (first | apply OpAt.z | apply OpAt.s)) (by rfl) (by rfl) (fun _ W hS => op_mv rfl rfl) ?_
          simp only [Act.put, List.setIfInBounds_toArray, List.set_cons_zero, List.set_cons_succ]
          refine k_skip (by apply opN; repeat' (first | apply OpAt.z | apply OpAt.s)) (by rfl) (by rfl) ?_
          simp only [Act.put, List.setIfInBounds_toArray, List.set_cons_zero, List.set_cons_succ]
          refine k_skip (by apply opN; repeat' (first | apply OpAt.z | apply OpAt.s)) (by rfl) (by rfl) ?_
          simp only [Act.put, List.setIfInBounds_toArray, List.set_cons_zero, List.set_cons_succ]
          refine k_skip (by apply opN; repeat' (first | apply OpAt.z | apply OpAt.s)) (by rfl) (by rfl) ?_
          simp only [Act.put, List.setIfInBounds_toArray, List.set_cons_zero, List.set_cons_succ]
          refine k_val (.bool false) (by apply opN; repeat' (first | apply OpAt.z | apply OpAt.s)) (by rfl) (by rfl) (fun _ W hS => op_pick rfl rfl rfl rfl rfl) ?_
          simp only [Act.put, List.setIfInBounds_toArray, List.set_cons_zero, List.set_cons_succ]
          refine k_val (.bool false) (by apply opN; repeat' (first | apply OpAt.z | apply OpAt.s)) (by rfl) (by rfl) (fun _ W hS => op_pick rfl rfl rfl rfl rfl) ?_
          simp only [Act.put, List.setIfInBounds_toArray, List.set_cons_zero, List.set_cons_succ]
          refine k_val (.bool false) (by apply opN; repeat' (first | apply OpAt.z | apply OpAt.s)) (by rfl) (by rfl) (fun _ W hS => op_mv rfl rfl) ?_
          simp only [Act.put, List.setIfInBounds_toArray, List.set_cons_zero, List.set_cons_succ]
          refine k_val (.pointer (some ⟨b3, 1, none⟩)) (by apply opN; repeat' (first | apply OpAt.z | apply OpAt.s)) (by rfl) (by rfl) (fun _ W hS => op_fa_1 rfl rfl) ?_
          simp only [Act.put, List.setIfInBounds_toArray, List.set_cons_zero, List.set_cons_succ]
          refine k_val (.int .i64 (n 1)) (by apply opN; repeat' (first | apply OpAt.z | apply OpAt.s)) (by rfl) (by rfl) (fun _ W hS => op_load_int rfl rfl ((cell_at hS.2 1).trans rfl)) ?_
          simp only [Act.put, List.setIfInBounds_toArray, List.set_cons_zero, List.set_cons_succ]
          refine k_val (.pointer (some ⟨rb, 0, none⟩)) (by apply opN; repeat' (first | apply OpAt.z | apply OpAt.s)) (by rfl) (by rfl) (fun _ W hS => op_mv rfl rfl) ?_
          simp only [Act.put, List.setIfInBounds_toArray, List.set_cons_zero, List.set_cons_succ]
          refine k_val (.pointer (some ⟨rb, 0, none⟩)) (by apply opN; repeat' (first | apply OpAt.z | apply OpAt.s)) (by rfl) (by rfl) (fun _ W hS => op_nilc rfl rfl) ?_
          simp only [Act.put, List.setIfInBounds_toArray, List.set_cons_zero, List.set_cons_succ]
          refine k_val (.pointer (some ⟨rb, 0, none⟩)) (by apply opN; repeat' (first | apply OpAt.z | apply OpAt.s)) (by rfl) (by rfl) (fun _ W hS => op_far0 rfl rfl) ?_
          simp only [Act.put, List.setIfInBounds_toArray, List.set_cons_zero, List.set_cons_succ]
          refine k_val (.int .i64 N) (by apply opN; repeat' (first | apply OpAt.z | apply OpAt.s)) (by rfl) (by rfl) (fun _ W hS => op_load_int rfl rfl ((cell_at (hH.out W hS.1).row 0).trans rfl)) ?_
          simp only [Act.put, List.setIfInBounds_toArray, List.set_cons_zero, List.set_cons_succ]
          refine k_val (.bool (decide (N ≤ n 1))) (by apply opN; repeat' (first | apply OpAt.z | apply OpAt.s)) (by rfl) (by rfl) (fun _ W hS => op_geq rfl rfl rfl) ?_
          simp only [Act.put, List.setIfInBounds_toArray, List.set_cons_zero, List.set_cons_succ]
          refine k_val (.bool (decide (N ≤ n 1))) (by apply opN; repeat' (first | apply OpAt.z | apply OpAt.s)) (by rfl) (by rfl) (fun _ W hS => op_pick rfl rfl rfl rfl rfl) ?_
          simp only [Act.put, List.setIfInBounds_toArray, List.set_cons_zero, List.set_cons_succ]
          refine k_nil ?_
          intro w4 hC4 _
          have hC4H := hide hC4
          clear hC4
          go_wp2
          all_goals go_meet
          all_goals exact ⟨by rw [hfrH.out] <;> rfl, hC4H.out⟩
        · have hk4 := hide (show (n 0 != 4) = true by rw [hk]; rfl)
          have hk5 := hide (show (n 0 != 5) = false by rw [hk]; rfl)
          have hk6 := hide (show (n 0 != 6) = true by rw [hk]; rfl)
          clear hk
          refine wp_region_k (fun _ W' => Below W.heap.size W W' ∧ W'.heap[b3]? = some (.cells (RW.mcells n d (.slice a nls c)) 24 (0, 0))) (fun _ => True) [] (.op 0 (.op 1 (.op 2 (.op 3 (.op 4 (.op 5 (.op 6 (.op 7 (.op 8 (.op 9 (.op 10 (.op 11 (.op 12 (.op 13 (.op 14 (.op 15 (.op 16 (.op 17 (.op 18 (.op 19 (.op 20 (.op 21 (.op 22 (.op 23 (.op 24 (.op 25 .nil)))))))))))))))))))))))))) (by kernel_rfl) (by kernel_rfl) (by rfl) (by kernel_rfl) hC0.out trivial ?_
          refine k_val (.bool true) (by apply opN; repeat' (first | apply OpAt.z | apply OpAt.s)) (by rfl) (by rfl) (fun _ W hS => op_mv rfl rfl) ?_
          simp only [Act.put, List.setIfInBounds_toArray, List.set_cons_zero, List.set_cons_succ]
          refine k_val (.bool false) (by apply opN; repeat' (first | apply OpAt.z | apply OpAt.s)) (by rfl) (by rfl) (fun _ W hS => op_not (p := true) rfl rfl) ?_
          simp only [Act.put, List.setIfInBounds_toArray, List.set_cons_zero, List.set_cons_succ]
          refine k_val (.bool false) (by apply opN; repeat' (first | apply OpAt.z | apply OpAt.s)) (by rfl) (by rfl) (fun _ W hS => op_mv rfl rfl) ?_
          simp only [Act.put, List.setIfInBounds_toArray, List.set_cons_zero, List.set_cons_succ]
          refine k_val (.pointer (some ⟨b3, 0, none⟩)) (by apply opN; repeat' (first | apply OpAt.z | apply OpAt.s)) (by rfl) (by rfl) (fun _ W hS => op_fa_0 rfl rfl) ?_
          simp only [Act.put, List.setIfInBounds_toArray, List.set_cons_zero, List.set_cons_succ]
          refine k_val (.int .i64 (n 0)) (by apply opN; repeat' (first | apply OpAt.z | apply OpAt.s)) (by rfl) (by rfl) (fun _ W hS => op_load_int rfl rfl ((cell_at hS.2 0).trans rfl)) ?_
          simp only [Act.put, List.setIfInBounds_toArray, List.set_cons_zero, List.set_cons_succ]
          refine k_val (.bool true) (by apply opN; repeat' (first | apply OpAt.z | apply OpAt.s)) (by rfl) (by rfl) (fun _ W hS => (op_neq_int rfl rfl rfl).trans (by rw [hk4.out])) ?_
          simp only [Act.put, List.setIfInBounds_toArray, List.set_cons_zero, List.set_cons_succ]
          refine k_val (.bool true) (by apply opN; repeat' (first | apply OpAt.z | apply OpAt.s)) (by rfl) (by rfl) (fun _ W hS => op_mv rfl rfl) ?_
          simp only [Act.put, List.setIfInBounds_toArray, List.set_cons_zero, List.set_cons_succ]
          refine k_val (.pointer (some ⟨b3, 0, none⟩)) (by apply opN; repeat' (first | apply OpAt.z | apply OpAt.s)) (by rfl) (by rfl) (fun _ W hS => op_fa_0 rfl rfl) ?_
          simp only [Act.put, List.setIfInBounds_toArray, List.set_cons_zero, List.set_cons_succ]
          refine k_val (.int .i64 (n 0)) (by apply opN; repeat' (first | apply OpAt.z | apply OpAt.s)) (by rfl) (by rfl) (fun _ W hS => op_load_int rfl rfl ((cell_at hS.2 0).trans rfl)) ?_
          simp only [Act.put, List.setIfInBounds_toArray, List.set_cons_zero, List.set_cons_succ]
          refine k_val (.bool false) (by apply opN; repeat' (first | apply OpAt.z | apply OpAt.s)) (by rfl) (by rfl) (fun _ W hS => (op_neq_int rfl rfl rfl).trans (by rw [hk5.out])) ?_
          simp only [Act.put, List.setIfInBounds_toArray, List.set_cons_zero, List.set_cons_succ]
          refine k_val (.bool false) (by apply opN; repeat' (first | apply OpAt.z | apply OpAt.s)) (by rfl) (by rfl) (fun _ W hS => op_pick rfl rfl rfl rfl rfl) ?_
          simp only [Act.put, List.setIfInBounds_toArray, List.set_cons_zero, List.set_cons_succ]
          refine k_val (.bool false) (by apply opN; repeat' (first | apply OpAt.z | apply OpAt.s)) (by rfl) (by rfl) (fun _ W hS => op_mv rfl rfl) ?_
          simp only [Act.put, List.setIfInBounds_toArray, List.set_cons_zero, List.set_cons_succ]
          refine k_skip (by apply opN; repeat' (first | apply OpAt.z | apply OpAt.s)) (by rfl) (by rfl) ?_
          simp only [Act.put, List.setIfInBounds_toArray, List.set_cons_zero, List.set_cons_succ]
          refine k_skip (by apply opN; repeat' (first | apply OpAt.z | apply OpAt.s)) (by rfl) (by rfl) ?_
          simp only [Act.put, List.setIfInBounds_toArray, List.set_cons_zero, List.set_cons_succ]
          refine k_skip (by apply opN; repeat' (first | apply OpAt.z | apply OpAt.s)) (by rfl) (by rfl) ?_
          simp only [Act.put, List.setIfInBounds_toArray, List.set_cons_zero, List.set_cons_succ]
          refine k_val (.bool false) (by apply opN; repeat' (first | apply OpAt.z | apply OpAt.s)) (by rfl) (by rfl) (fun _ W hS => op_pick rfl rfl rfl rfl rfl) ?_
          simp only [Act.put, List.setIfInBounds_toArray, List.set_cons_zero, List.set_cons_succ]
          refine k_val (.bool false) (by apply opN; repeat' (first | apply OpAt.z | apply OpAt.s)) (by rfl) (by rfl) (fun _ W hS => op_pick rfl rfl rfl rfl rfl) ?_
          simp only [Act.put, List.setIfInBounds_toArray, List.set_cons_zero, List.set_cons_succ]
          refine k_val (.bool false) (by apply opN; repeat' (first | apply OpAt.z | apply OpAt.s)) (by rfl) (by rfl) (fun _ W hS => op_mv rfl rfl) ?_
          simp only [Act.put, List.setIfInBounds_toArray, List.set_cons_zero, List.set_cons_succ]
          refine k_val (.pointer (some ⟨b3, 1, none⟩)) (by apply opN; repeat' (first | apply OpAt.z | apply OpAt.s)) (by rfl) (by rfl) (fun _ W hS => op_fa_1 rfl rfl) ?_
          simp only [Act.put, List.setIfInBounds_toArray, List.set_cons_zero, List.set_cons_succ]
          refine k_val (.int .i64 (n 1)) (by apply opN; repeat' (first | apply OpAt.z | apply OpAt.s)) (by rfl) (by rfl) (fun _ W hS => op_load_int rfl rfl ((cell_at hS.2 1).trans rfl)) ?_
          simp only [Act.put, List.setIfInBounds_toArray, List.set_cons_zero, List.set_cons_succ]
          refine k_val (.pointer (some ⟨rb, 0, none⟩)) (by apply opN; repeat' (first | apply OpAt.z | apply OpAt.s)) (by rfl) (by rfl) (fun _ W hS => op_mv rfl rfl) ?_
          simp only [Act.put, List.setIfInBounds_toArray, List.set_cons_zero, List.set_cons_succ]
          refine k_val (.pointer (some ⟨rb, 0, none⟩)) (by apply opN; repeat' (first | apply OpAt.z | apply OpAt.s)) (by rfl) (by rfl) (fun _ W hS => op_nilc rfl rfl) ?_
          simp only [Act.put, List.setIfInBounds_toArray, List.set_cons_zero, List.set_cons_succ]
          refine k_val (.pointer (some ⟨rb, 0, none⟩)) (by apply opN; repeat' (first | apply OpAt.z | apply OpAt.s)) (by rfl) (by rfl) (fun _ W hS => op_far0 rfl rfl) ?_
          simp only [Act.put, List.setIfInBounds_toArray, List.set_cons_zero, List.set_cons_succ]
          refine k_val (.int .i64 N) (by apply opN; repeat' (first | apply OpAt.z | apply OpAt.s)) (by rfl) (by rfl) (fun _ W hS => op_load_int rfl rfl ((cell_at (hH.out W hS.1).row 0).trans rfl)) ?_
          simp only [Act.put, List.setIfInBounds_toArray, List.set_cons_zero, List.set_cons_succ]
          refine k_val (.bool (decide (N ≤ n 1))) (by apply opN; repeat' (first | apply OpAt.z | apply OpAt.s)) (by rfl) (by rfl) (fun _ W hS => op_geq rfl rfl rfl) ?_
          simp only [Act.put, List.setIfInBounds_toArray, List.set_cons_zero, List.set_cons_succ]
          refine k_val (.bool (decide (N ≤ n 1))) (by apply opN; repeat' (first | apply OpAt.z | apply OpAt.s)) (by rfl) (by rfl) (fun _ W hS => op_pick rfl rfl rfl rfl rfl) ?_
          simp only [Act.put, List.setIfInBounds_toArray, List.set_cons_zero, List.set_cons_succ]
          refine k_nil ?_
          intro w4 hC4 _
          have hC4H := hide hC4
          clear hC4
          go_wp2
          all_goals go_meet
          all_goals exact ⟨by rw [hfrH.out] <;> rfl, hC4H.out⟩
        · have hk4 := hide (show (n 0 != 4) = true by rw [hk]; rfl)
          have hk5 := hide (show (n 0 != 5) = true by rw [hk]; rfl)
          have hk6 := hide (show (n 0 != 6) = false by rw [hk]; rfl)
          clear hk
          refine wp_region_k (fun _ W' => Below W.heap.size W W' ∧ W'.heap[b3]? = some (.cells (RW.mcells n d (.slice a nls c)) 24 (0, 0))) (fun _ => True) [] (.op 0 (.op 1 (.op 2 (.op 3 (.op 4 (.op 5 (.op 6 (.op 7 (.op 8 (.op 9 (.op 10 (.op 11 (.op 12 (.op 13 (.op 14 (.op 15 (.op 16 (.op 17 (.op 18 (.op 19 (.op 20 (.op 21 (.op 22 (.op 23 (.op 24 (.op 25 .nil)))))))))))))))))))))))))) (by kernel_rfl) (by kernel_rfl) (by rfl) (by kernel_rfl) hC0.out trivial ?_
          refine k_val (.bool true) (by apply opN; repeat' (first | apply OpAt.z | apply OpAt.s)) (by rfl) (by rfl) (fun _ W hS => op_mv rfl rfl) ?_
          simp only [Act.put, List.setIfInBounds_toArray, List.set_cons_zero, List.set_cons_succ]
          refine k_val (.bool false) (by apply opN; repeat' (first | apply OpAt.z | apply OpAt.s)) (by rfl) (by rfl) (fun _ W hS => op_not (p := true) rfl rfl) ?_
          simp only [Act.put, List.setIfInBounds_toArray, List.set_cons_zero, List.set_cons_succ]
          refine k_val (.bool false) (by apply opN; repeat' (first | apply OpAt.z | apply OpAt.s)) (by rfl) (by rfl) (fun _ W hS => op_mv rfl rfl) ?_
          simp only [Act.put, List.setIfInBounds_toArray, List.set_cons_zero, List.set_cons_succ]
          refine k_val (.pointer (some ⟨b3, 0, none⟩)) (by apply opN; repeat' (first | apply OpAt.z | apply OpAt.s)) (by rfl) (by rfl) (fun _ W hS => op_fa_0 rfl rfl) ?_
          simp only [Act.put, List.setIfInBounds_toArray, List.set_cons_zero, List.set_cons_succ]
          refine k_val (.int .i64 (n 0)) (by apply opN; repeat' (first | apply OpAt.z | apply OpAt.s)) (by rfl) (by rfl) (fun _ W hS => op_load_int rfl rfl ((cell_at hS.2 0).trans rfl)) ?_
          simp only [Act.put, List.setIfInBounds_toArray, List.set_cons_zero, List.set_cons_succ]
          refine k_val (.bool true) (by apply opN; repeat' (first | apply OpAt.z | apply OpAt.s)) (by rfl) (by rfl) (fun _ W hS => (op_neq_int rfl rfl rfl).trans (by rw [hk4.out])) ?_
          simp only [Act.put, List.setIfInBounds_toArray, List.set_cons_zero, List.set_cons_succ]
          refine k_val (.bool true) (by apply opN; repeat' (first | apply OpAt.z | apply OpAt.s)) (by rfl) (by rfl) (fun _ W hS => op_mv rfl rfl) ?_
          simp only [Act.put, List.setIfInBounds_toArray, List.set_cons_zero, List.set_cons_succ]
          refine k_val (.pointer (some ⟨b3, 0, none⟩)) (by apply opN; repeat' (first | apply OpAt.z | apply OpAt.s)) (by rfl) (by rfl) (fun _ W hS => op_fa_0 rfl rfl) ?_
          simp only [Act.put, List.setIfInBounds_toArray, List.set_cons_zero, List.set_cons_succ]
          refine k_val (.int .i64 (n 0)) (by apply opN; repeat' (first | apply OpAt.z | apply OpAt.s)) (by rfl) (by rfl) (fun _ W hS => op_load_int rfl rfl ((cell_at hS.2 0).trans rfl)) ?_
          simp only [Act.put, List.setIfInBounds_toArray, List.set_cons_zero, List.set_cons_succ]
          refine k_val (.bool true) (by apply opN; repeat' (first | apply OpAt.z | apply OpAt.s)) (by rfl) (by rfl) (fun _ W hS => (op_neq_int rfl rfl rfl).trans (by rw [hk5.out])) ?_
          simp only [Act.put, List.setIfInBounds_toArray, List.set_cons_zero, List.set_cons_succ]
          refine k_val (.bool true) (by apply opN; repeat' (first | apply OpAt.z | apply OpAt.s)) (by rfl) (by rfl) (fun _ W hS => op_pick rfl rfl rfl rfl rfl) ?_
          simp only [Act.put, List.setIfInBounds_toArray, List.set_cons_zero, List.set_cons_succ]
          refine k_val (.bool true) (by apply opN; repeat' (first | apply OpAt.z | apply OpAt.s)) (by rfl) (by rfl) (fun _ W hS => op_mv rfl rfl) ?_
          simp only [Act.put, List.setIfInBounds_toArray, List.set_cons_zero, List.set_cons_succ]
          refine k_val (.pointer (some ⟨b3, 0, none⟩)) (by apply opN; repeat' (first | apply OpAt.z | apply OpAt.s)) (by rfl) (by rfl) (fun _ W hS => op_fa_0 rfl rfl) ?_
          simp only [Act.put, List.setIfInBounds_toArray, List.set_cons_zero, List.set_cons_succ]
          refine k_val (.int .i64 (n 0)) (by apply opN; repeat' (first | apply OpAt.z | apply OpAt.s)) (by rfl) (by rfl) (fun _ W hS => op_load_int rfl rfl ((cell_at hS.2 0).trans rfl)) ?_
          simp only [Act.put, List.setIfInBounds_toArray, List.set_cons_zero, List.set_cons_succ]
          refine k_val (.bool false) (by apply opN; repeat' (first | apply OpAt.z | apply OpAt.s)) (by rfl) (by rfl) (fun _ W hS => (op_neq_int rfl rfl rfl).trans (by rw [hk6.out])) ?_
          simp only [Act.put, List.setIfInBounds_toArray, List.set_cons_zero, List.set_cons_succ]
          refine k_val (.bool false) (by apply opN; repeat' (first | apply OpAt.z | apply OpAt.s)) (by rfl) (by rfl) (fun _ W hS => op_pick rfl rfl rfl rfl rfl) ?_
          simp only [Act.put, List.setIfInBounds_toArray, List.set_cons_zero, List.set_cons_succ]
          refine k_val (.bool false) (by apply opN; repeat' (first | apply OpAt.z | apply OpAt.s)) (by rfl) (by rfl) (fun _ W hS => op_pick rfl rfl rfl rfl rfl) ?_
          simp only [Act.put, List.setIfInBounds_toArray, List.set_cons_zero, List.set_cons_succ]
          refine k_val (.bool false) (by apply opN; repeat' (first | apply OpAt.z | apply OpAt.s)) (by rfl) (by rfl) (fun _ W hS => op_mv rfl rfl) ?_
          simp only [Act.put, List.setIfInBounds_toArray, List.set_cons_zero, List.set_cons_succ]
          refine k_val (.pointer (some ⟨b3, 1, none⟩)) (by apply opN; repeat' (first | apply OpAt.z | apply OpAt.s)) (by rfl) (by rfl) (fun _ W hS => op_fa_1 rfl rfl) ?_
          simp only [Act.put, List.setIfInBounds_toArray, List.set_cons_zero, List.set_cons_succ]
          refine k_val (.int .i64 (n 1)) (by apply opN; repeat' (first | apply OpAt.z | apply OpAt.s)) (by rfl) (by rfl) (fun _ W hS => op_load_int rfl rfl ((cell_at hS.2 1).trans rfl)) ?_
          simp only [Act.put, List.setIfInBounds_toArray, List.set_cons_zero, List.set_cons_succ]
          refine k_val (.pointer (some ⟨rb, 0, none⟩)) (by apply opN; repeat' (first | apply OpAt.z | apply OpAt.s)) (by rfl) (by rfl) (fun _ W hS => op_mv rfl rfl) ?_
          simp only [Act.put, List.setIfInBounds_toArray, List.set_cons_zero, List.set_cons_succ]
          refine k_val (.pointer (some ⟨rb, 0, none⟩)) (by apply opN; repeat' (first | apply OpAt.z | apply OpAt.s)) (by rfl) (by rfl) (fun _ W hS => op_nilc rfl rfl) ?_
          simp only [Act.put, List.setIfInBounds_toArray, List.set_cons_zero, List.set_cons_succ]
          refine k_val (.pointer (some ⟨rb, 0, none⟩)) (by apply opN; repeat' (first | apply OpAt.z | apply OpAt.s)) (by rfl) (by rfl) (fun _ W hS => op_far0 rfl rfl) ?_
          simp only [Act.put, List.setIfInBounds_toArray, List.set_cons_zero, List.set_cons_succ]
          refine k_val (.int .i64 N) (by apply opN; repeat' (first | apply OpAt.z | apply OpAt.s)) (by rfl) (by rfl) (fun _ W hS => op_load_int rfl rfl ((cell_at (hH.out W hS.1).row 0).trans rfl)) ?_
          simp only [Act.put, List.setIfInBounds_toArray, List.set_cons_zero, List.set_cons_succ]
          refine k_val (.bool (decide (N ≤ n 1))) (by apply opN; repeat' (first | apply OpAt.z | apply OpAt.s)) (by rfl) (by rfl) (fun _ W hS => op_geq rfl rfl rfl) ?_
          simp only [Act.put, List.setIfInBounds_toArray, List.set_cons_zero, List.set_cons_succ]
          refine k_val (.bool (decide (N ≤ n 1))) (by apply opN; repeat' (first | apply OpAt.z | apply OpAt.s)) (by rfl) (by rfl) (fun _ W hS => op_pick rfl rfl rfl rfl rfl) ?_
          simp only [Act.put, List.setIfInBounds_toArray, List.set_cons_zero, List.set_cons_succ]
          refine k_nil ?_
          intro w4 hC4 _
          have hC4H := hide hC4
          clear hC4
          go_wp2
          all_goals go_meet
          all_goals exact ⟨by rw [hfrH.out] <;> rfl, hC4H.out⟩
      case rest =>
        obtain ⟨rfl, hBx, hr3⟩ := hcut
        cases fr
        · have hokt : ok = true := hokN.out
          have hoktH := hide hokt
          have hI0 := hide (And.intro hBx hr3)
          clear hBx hr3 hokN hnoth hfrH hkv hokt
          go_wp2
          go_loopw [6] (fun i wr => ∃ j : Nat, i = .int .i64 j ∧ j ≤ nl ∧ Hid (RW.hasK (RW.vk n) (LL.take j) = false ∧ Below W.heap.size W wr ∧ wr.heap[b3]? = some (.cells (RW.mcells n d (.slice a nls c)) 24 (0, 0)))) (fun i _ => nl - (intOf i).toNat)
          case atStart => exact ⟨0, rfl, Nat.zero_le _, rfl, hI0.out.1, hI0.out.2⟩
          case round =>
            clear hI0
            obtain ⟨j, rfl, hj, hQ⟩ := hrel
            have hR := hH.out wr hQ.out.2.1
            have c1 : wr.cell? ⟨rb, 1, none⟩ = some (.slice av nl cv) := (cell_at hR.row 1).trans rfl
            by_cases hlt : j < nl
            · obtain ⟨x, hx⟩ : ∃ x, Lx[j]? = some x := ⟨_, List.getElem?_eq_getElem (by rw [← hnlH.out]; exact hlt)⟩
              obtain ⟨g, c2, hv2, _, _, hrg⟩ := hR.at hx
              injection hv2 with p1 p2 p3
              subst p1
              have hci := msg_info x.1 x.2.1 (RW.mxl x)
              have hco := msg_one x.1 x.2.1 (RW.mxl x) rfl
              have hi8 : (Tryd.prog.info? 24).map (·.size) = some (RW.mxe x).length := hci
              have hxl : LL[j]? = some (RW.mxp x) := by rw [hLLH.out, List.getElem?_map, hx]; rfl
              have htk := hide (RW.take_one hxl)
              have hltH := hide hlt
              clear hR hx p2 p3 hxl
              go_upto_region 8 with (first
                | (refine wpList_load_mid rfl 24 (.tmp 50) rfl g (j * 8) rfl (RW.mxe x) _ hrg Tryd.underlying24 rfl hi8 ?_)
                | (refine wpList_store_new rfl 24 (.tmp 7) (.tmp 51) rfl (RW.mcells x.1 x.2.1 (RW.mxl x)) rfl rfl 24 RW.noM hci rfl hco ?_))
              obtain ⟨b13, hb13⟩ : ∃ b, b = wr.heap.size := ⟨_, rfl⟩
              rw [← hb13]
              refine gen_world (fun W' => Below wr.heap.size wr W' ∧ W'.heap[b13]? = some (.cells (RW.mcells x.1 x.2.1 (RW.mxl x)) 24 (0, 0))) ⟨(Below.refl _ _).alloc (Nat.le_refl _) _, by rw [hb13]; exact heap_alloc_new _ _⟩ ?_
              rintro w3 ⟨hB3, h13⟩
              have h3' := (hB3.block _ (Array.getElem?_eq_some_iff.1 hQ.out.2.2).1).trans hQ.out.2.2
              have k0 : w3.cell? ⟨b13, 0, none⟩ = some (.int .i64 (x.1 0)) := (cell_at h13 0).trans rfl
              have k1 : w3.cell? ⟨b13, 1, none⟩ = some (.int .i64 (x.1 1)) := (cell_at h13 1).trans rfl
              have k3 : w3.cell? ⟨b13, 3, none⟩ = some (.int .i64 (x.1 3)) := (cell_at h13 3).trans rfl
              have k4 : w3.cell? ⟨b13, 4, none⟩ = some (.int .i64 (x.1 4)) := (cell_at h13 4).trans rfl
              have m0 : w3.cell? ⟨b3, 0, none⟩ = some (.int .i64 (n 0)) := (cell_at h3' 0).trans rfl
              have m1 : w3.cell? ⟨b3, 1, none⟩ = some (.int .i64 (n 1)) := (cell_at h3' 1).trans rfl
              have m3 : w3.cell? ⟨b3, 3, none⟩ = some (.int .i64 (n 3)) := (cell_at h3' 3).trans rfl
              have m4 : w3.cell? ⟨b3, 4, none⟩ = some (.int .i64 (n 4)) := (cell_at h3' 4).trans rfl
              have hB3H := hide (And.intro (hQ.out.2.1.trans (hB3.mono hQ.out.2.1.size)) h3')
              have hno := hide hQ.out.1
              clear hB3 h13 h3' hb13 hQ hci hco hi8 hrg c1
              obtain ⟨q0, hq0⟩ : ∃ q, q = (x.1 1 == n 1) := ⟨_, rfl⟩
              obtain ⟨q1, hq1⟩ : ∃ q, q = (x.1 0 == n 0) := ⟨_, rfl⟩
              obtain ⟨q2, hq2⟩ : ∃ q, q = (x.1 3 == n 3) := ⟨_, rfl⟩
              obtain ⟨q3, hq3⟩ : ∃ q, q = (x.1 4 == n 4) := ⟨_, rfl⟩
              have e0 := hq0.symm
              have e1 := hq1.symm
              have e2 := hq2.symm
              have e3 := hq3.symm
              obtain ⟨c2, hcc⟩ : ∃ c2, c2 = (((q0 && q1) && q2) && q3) := ⟨_, rfl⟩
              have hsn := hide (show RW.hasK (RW.vk n) (LL.take (j + 1)) = c2 by
                rw [htk.out, RW.hasK_snoc, hno.out, Bool.false_or, hcc, hq0, hq1, hq2, hq3]; rfl)
              have hccH := hide hcc
              clear hcc hq0 hq1 hq2 hq3
              simp only [Act.put]
              go_cut [77] (fun s wx => s = .bool c2 ∧ wx = w3)
              case first =>
                cases q0
                · go_wp2
                  all_goals go_meet
                  all_goals exact ⟨by rw [hccH.out] <;> rfl, rfl⟩
                · cases q1
                  · go_wp2
                    all_goals go_meet
                    all_goals exact ⟨by rw [hccH.out] <;> rfl, rfl⟩
                  · cases q2
                    · go_wp2
                      all_goals go_meet
                      all_goals exact ⟨by rw [hccH.out] <;> rfl, rfl⟩
                    · cases q3
                      · go_wp2
                        all_goals go_meet
                        all_goals exact ⟨by rw [hccH.out] <;> rfl, rfl⟩
                      · go_wp2
                        all_goals go_meet
                        all_goals exact ⟨by rw [hccH.out] <;> rfl, rfl⟩
              case rest =>
              obtain ⟨rfl, hwx⟩ := hcut
              have hwx' := hwx.symm
              subst hwx'
              clear e0 e1 e2 e3 k0 k1 k3 k4 m0 m1 m3 m4 hccH
              cases c2
              · go_wp2
                go_roundw
                case rel => exact ⟨j + 1, by go_num, hltH.out, hsn.out, hB3H.out.1, hB3H.out.2⟩
                case measure => have := hltH.out; simp [intOf]; omega
              · have hk := hide (RW.hasK_take hsn.out)
                have hend := hide (hdup.out hk.out _ hB3H.out.1)
                go_wp2
                go_ret
                exact ⟨by rw [RW.addOk, hk.out] <;> simp, hend.out⟩
            · obtain rfl : nl = j := by omega
              have hfull : LL.take nl = LL := List.take_of_length_le (by rw [hLLH.out, List.length_map, ← hnlH.out]; exact Nat.le_refl _)
              have hno := hQ.out.1
              rw [hfull] at hno
              have hnoH := hide hno
              have hR' := hide hR
              have hQ2 := hide hQ.out.2
              clear hno hfull hR hQ hlt hdup
              go_upto_region 10 with fail
              obtain ⟨x, hx⟩ : ∃ x : RW.Mx, x = (n, d, a, nls, c) := ⟨_, rfl⟩
              have hxe : RW.mcells x.1 x.2.1 (RW.mxl x) = RW.mcells n d (.slice a nls c) := by rw [hx]; rfl
              have hxp : RW.mxp x = (RW.vk n, d) := by rw [hx]; rfl
              have hxeH := hide hxe
              have hxpH := hide hxp
              clear hx hxe hxp
              refine wp_region_k (fun g W' => KeptR rb (.slice av nl cv) wr W' ∧ W'.heap[b3]? = some (.cells (RW.mcells n d (.slice a nls c)) 24 (0, 0)) ∧ (10 ∉ g → W'.heap[rb]? = some (.cells #[.int .i64 N, .slice av nl cv] 92 (0, 0)))) (fun W' => W'.ownsRow (rb + 1) 24 8 (.slice av nl cv) nl (rowCells RW.mxe Lx) ∧ rb + 1 ≤ W'.heap.size) [6, 7, 10] (.op 0 (.op 1 (.op 2 (.op 3 (.op 4 (.op 5 (.op 6 (.op 7 (.op 8 (.op 9 (.op 10 .nil))))))))))) (by kernel_rfl) (by kernel_rfl) (by rfl) (by kernel_rfl) ⟨KeptR.of_below (Below.refl _ _).drew, hQ2.out.2, fun _ => hR'.out.row⟩ ⟨by have hh := (hR'.out.next (Below.refl _ _).drew).own; rw [← hnlH.out] at hh; exact hh, hR'.out.lt⟩ ?_
              refine k_val (.pointer (some ⟨rb, 0, none⟩)) (by apply opN; repeat' (first | apply OpAt.z | apply OpAt.s)) (by rfl) (by rfl) (fun _ W' hS => op_mv rfl rfl) ?_
              simp only [Act.put, List.setIfInBounds_toArray, List.set_cons_zero, List.set_cons_succ]
              refine k_val (.pointer (some ⟨rb, 0, none⟩)) (by apply opN; repeat' (first | apply OpAt.z | apply OpAt.s)) (by rfl) (by rfl) (fun _ W' hS => op_mv rfl rfl) ?_
              simp only [Act.put, List.setIfInBounds_toArray, List.set_cons_zero, List.set_cons_succ]
              refine k_val (.pointer (some ⟨rb, 0, none⟩)) (by apply opN; repeat' (first | apply OpAt.z | apply OpAt.s)) (by rfl) (by rfl) (fun _ W' hS => op_nilc rfl rfl) ?_
              simp only [Act.put, List.setIfInBounds_toArray, List.set_cons_zero, List.set_cons_succ]
              refine k_val (.pointer (some ⟨rb, 1, none⟩)) (by apply opN; repeat' (first | apply OpAt.z | apply OpAt.s)) (by rfl) (by rfl) (fun _ W' hS => op_far1 rfl rfl) ?_
              simp only [Act.put, List.setIfInBounds_toArray, List.set_cons_zero, List.set_cons_succ]
              refine k_bef 10 (.slice av nl cv) (by apply opN; repeat' (first | apply OpAt.z | apply OpAt.s)) (by rfl) (by rfl) (by decide +kernel) (by rfl) (fun _ W' hg hS => op_load_ms rfl rfl ((cell_at (hS.2.2 hg) 1).trans rfl)) ?_
              simp only [Act.put, List.setIfInBounds_toArray, List.set_cons_zero, List.set_cons_succ]
              refine k_val (.agg (RW.mcells n d (.slice a nls c))) (by apply opN; repeat' (first | apply OpAt.z | apply OpAt.s)) (by rfl) (by rfl) (fun _ W' hS => op_load_agg rfl rfl (msg_ld hS.2.1)) ?_
              simp only [Act.put, List.setIfInBounds_toArray, List.set_cons_zero, List.set_cons_succ]
              refine k_step (fun K' u => ∃ lb, u = .slice (some ⟨lb, 0, none⟩) 1 1 ∧ K' = fun W' => (W'.ownsRow (rb + 1) 24 8 (.slice av nl cv) nl (rowCells RW.mxe Lx) ∧ rb + 1 ≤ W'.heap.size) ∧ RowV 8 RW.mxe W' (.slice (some ⟨lb, 0, none⟩) 1 1) [x]) (by apply opN; repeat' (first | apply OpAt.z | apply OpAt.s)) (by rfl) (by rfl) (by rfl) (fun W' hC hK => ?_) ?_
              · have hB6 : Below W'.heap.size W' (W'.alloc (.cells (RW.mcells n d (.slice a nls c)) 24)) := (Below.refl _ _).alloc (Nat.le_refl _) _
                have hlit : RowV 8 RW.mxe (W'.alloc (.cells (rowCells RW.mxe [x]).toArray 24)) (.slice (some ⟨W'.heap.size, 0, none⟩) 1 1) [x] := rows_lit (k := 8) (enc := RW.mxe) W' 24 RW.mxe_len [x]
                have hce : (rowCells RW.mxe [x]).toArray = (RW.mcells n d (.slice a nls c)) := by
                  rw [← hxeH.out]
                  show (RW.mxe x ++ []).toArray = _
                  rw [List.append_nil]
                  rfl
                rw [hce] at hlit
                exact xup_val (op_bs_m1 rfl rfl rfl) ⟨⟨hC.1.more hB6, (hB6.block _ (Array.getElem?_eq_some_iff.1 hC.2.1).1).trans hC.2.1, fun hg => (hB6.block _ (Array.getElem?_eq_some_iff.1 (hC.2.2 (by decide))).1).trans (hC.2.2 (by decide))⟩, _, ⟨⟨own_keep hK.1 (fun g hg => hB6.block _ (own_block hK.1 hg).2.1), Nat.le_trans hK.2 hB6.size⟩, hlit⟩, W'.heap.size, rfl, rfl⟩
              rintro K' u ⟨lb, rfl, rfl⟩
              simp only [Act.put, List.setIfInBounds_toArray, List.set_cons_zero, List.set_cons_succ]
              refine k_step (fun K' u => ∃ a' c', u = .slice a' (nl + 1) c' ∧ K' = fun W' => W'.ownsRow (rb + 1) 24 8 (.slice a' (nl + 1) c') (nl + 1) (rowCells RW.mxe (Lx ++ [x])) ∧ W'.heap[rb]? = some (.cells #[.int .i64 N, .slice av nl cv] 92 (0, 0))) (by apply opN; repeat' (first | apply OpAt.z | apply OpAt.s)) (by rfl) (by rfl) (by rfl) (fun W' hC hK => ?_) ?_
              · have hko : W'.ownsRow (rb + 1) 24 8 (.slice av nl cv) Lx.length (rowCells RW.mxe Lx) := by rw [← hnlH.out]; exact hK.1.1
                obtain ⟨v7, W7, hr, ho, hb, hgb⟩ := run_app_rows (P := Tryd.prog) 43 Tryd.underlying43 msg_einfo (by rfl) (by decide) RW.mxe_len RW.mxe_one hko hK.1.2 hK.2 (by unfold maxLen; rw [← hnlH.out]; simp; omega) (by rw [← hnlH.out]; simp; omega)
                rw [List.length_append, ← hnlH.out] at ho
                obtain ⟨a7, c7, rfl⟩ := own_fm ho
                have hne3 : (Value.slice av nl cv).ownBlock ≠ some b3 := fun e => by have := (hown.out b3 e).2.1; rw [← hb3H.out] at this; exact absurd this (Nat.lt_irrefl _)
                have hrb := hC.2.2 (by decide)
                have hrb7 := (hb.block rb (Nat.lt_succ_self rb)).trans hrb
                exact xup_val (op_app_m rfl rfl rfl rfl hr) ⟨⟨hC.1.grown hgb, (hgb.block b3 (Array.getElem?_eq_some_iff.1 hC.2.1).1 hne3.symm).trans hC.2.1, fun _ => hrb7⟩, _, ⟨ho, hrb7⟩, a7, c7, rfl, rfl⟩
              rintro K' u ⟨a7, c7, rfl, rfl⟩
              simp only [Act.put, List.setIfInBounds_toArray, List.set_cons_zero, List.set_cons_succ]
              refine k_val (.pointer (some ⟨rb, 0, none⟩)) (by apply opN; repeat' (first | apply OpAt.z | apply OpAt.s)) (by rfl) (by rfl) (fun _ W' hS => op_nilc rfl rfl) ?_
              simp only [Act.put, List.setIfInBounds_toArray, List.set_cons_zero, List.set_cons_succ]
              refine k_val (.pointer (some ⟨rb, 1, none⟩)) (by apply opN; repeat' (first | apply OpAt.z | apply OpAt.s)) (by rfl) (by rfl) (fun _ W' hS => op_far1 rfl rfl) ?_
              simp only [Act.put, List.setIfInBounds_toArray, List.set_cons_zero, List.set_cons_succ]
              refine k_step (fun K' u => K' = fun W' => RBx W' rb N (.slice a7 (nl + 1) c7) (Lx ++ [x])) (by apply opN; repeat' (first | apply OpAt.z | apply OpAt.s)) (by rfl) (by rfl) (by rfl) (fun W' hC hK => ?_) ?_
              · have hne : b3 ≠ rb := by have := hR'.out.lt; have := (Array.getElem?_eq_some_iff.1 hQ2.out.2).1; have h1 := hH.out W (Below.refl _ _); have := h1.lt; have := hb3H.out; omega
                refine xup_skip (op_store_ms rfl rfl rfl ((cell_at hK.2 1).trans rfl) (by simp [World.frozen?, hK.2])) ⟨⟨hC.1.setCell 1 _, (Below.heap_setCell _ _ _ _ hne).trans hC.2.1, fun h => absurd (by decide) h⟩, _, ⟨?_, ?_⟩, rfl⟩
                · exact (heap_setCell_same _ _ 1 _ _ _ hK.2).trans rfl
                · rw [List.length_append, ← hnlH.out]
                  exact own_keep hK.1 (fun q hq => Below.heap_setCell _ _ _ _ (by have := (own_block hK.1 hq).1; show q ≠ rb; omega))
              rintro _ _ rfl
              simp only [Act.put]
              refine k_nil ?_
              intro w9 hC9 hK9
              have hfin := hide (show (∃ vb' Lx', RBx w9 rb N vb' Lx' ∧ Lx'.map RW.mxp = RW.addL ok (RW.vk n) d LL ∧ Lx'.length ≤ nl + 1) ∧ KeptR rb (.slice av nl cv) W w9 from
                ⟨⟨_, Lx ++ [x], hK9, by rw [List.map_append, List.map_cons, List.map_nil, hxpH.out, ← hLLH.out, RW.addL, RW.addOk, hnoH.out, hoktH.out]; rfl, by rw [List.length_append, ← hnlH.out]; exact Nat.le_refl _⟩, KeptR.first hQ2.out.1 hC9.1⟩)
              clear hC9 hK9
              go_wp2
              go_ret
              exact ⟨by rw [RW.addOk, hnoH.out, hoktH.out] <;> rfl, hfin.out⟩
        · have hof : ok = false := hokN.out
          have hend := hide (hnoth.out hof _ hBx)
          clear hr3 hBx
          go_wp2
          go_ret
          exact ⟨by rw [RW.addOk, hof] <;> rfl, hend.out⟩
    · have hvk : RW.voteK (n 0) = false := by unfold RW.voteK; rw [decide_eq_false_iff_not]; omega
      have hof : ok = false := by rw [hok.out, hvk]; rfl
      have hk4 := hide (show (n 0 != 4) = true by rw [bne_iff_ne]; omega)
      have hk5 := hide (show (n 0 != 5) = true by rw [bne_iff_ne]; omega)
      have hk6 := hide (show (n 0 != 6) = true by rw [bne_iff_ne]; omega)
      clear hkv hvk
      refine wp_region_k (fun _ W' => Below W.heap.size W W' ∧ W'.heap[b3]? = some (.cells (RW.mcells n d (.slice a nls c)) 24 (0, 0))) (fun _ => True) [] (.op 0 (.op 1 (.op 2 (.op 3 (.op 4 (.op 5 (.op 6 (.op 7 (.op 8 (.op 9 (.op 10 (.op 11 (.op 12 (.op 13 (.op 14 (.op 15 (.op 16 (.op 17 (.op 18 (.op 19 (.op 20 (.op 21 (.op 22 (.op 23 (.op 24 (.op 25 .nil)))))))))))))))))))))))))) (by kernel_rfl) (by kernel_rfl) (by rfl) (by kernel_rfl) hC0.out trivial ?_
      refine k_val (.bool true) (by apply opN; repeat' (first | apply OpAt.z | apply OpAt.s)) (by rfl) (by rfl) (fun _ W hS => op_mv rfl rfl) ?_
      simp only [Act.put, List.setIfInBounds_toArray, List.set_cons_zero, List.set_cons_succ]
      refine k_val (.bool false) (by apply opN; repeat' (first | apply OpAt.z | apply OpAt.s)) (by rfl) (by rfl) (fun _ W hS => op_not (p := true) rfl rfl) ?_
      simp only [Act.put, List.setIfInBounds_toArray, List.set_cons_zero, List.set_cons_succ]
      refine k_val (.bool false) (by apply opN; repeat' (first | apply OpAt.z | apply OpAt.s)) (by rfl) (by rfl) (fun _ W hS => op_mv rfl rfl) ?_
      simp only [Act.put, List.setIfInBounds_toArray, List.set_cons_zero, List.set_cons_succ]
      refine k_val (.pointer (some ⟨b3, 0, none⟩)) (by apply opN; repeat' (first | apply OpAt.z | apply OpAt.s)) (by rfl) (by rfl) (fun _ W hS => op_fa_0 rfl rfl) ?_
      simp only [Act.put, List.setIfInBounds_toArray, List.set_cons_zero, List.set_cons_succ]
      refine k_val (.int .i64 (n 0)) (by apply opN; repeat' (first | apply OpAt.z | apply OpAt.s)) (by rfl) (by rfl) (fun _ W hS => op_load_int rfl rfl ((cell_at hS.2 0).trans rfl)) ?_
      simp only [Act.put, List.setIfInBounds_toArray, List.set_cons_zero, List.set_cons_succ]
      refine k_val (.bool true) (by apply opN; repeat' (first | apply OpAt.z | apply OpAt.s)) (by rfl) (by rfl) (fun _ W hS => (op_neq_int rfl rfl rfl).trans (by rw [hk4.out])) ?_
      simp only [Act.put, List.setIfInBounds_toArray, List.set_cons_zero, List.set_cons_succ]
      refine k_val (.bool true) (by apply opN; repeat' (first | apply OpAt.z | apply OpAt.s)) (by rfl) (by rfl) (fun _ W hS => op_mv rfl rfl) ?_
      simp only [Act.put, List.setIfInBounds_toArray, List.set_cons_zero, List.set_cons_succ]
      refine k_val (.pointer (some ⟨b3, 0, none⟩)) (by apply opN; repeat' (first | apply OpAt.z | apply OpAt.s)) (by rfl) (by rfl) (fun _ W hS => op_fa_0 rfl rfl) ?_
      simp only [Act.put, List.setIfInBounds_toArray, List.set_cons_zero, List.set_cons_succ]
      refine k_val (.int .i64 (n 0)) (by apply opN; repeat' (first | apply OpAt.z | apply OpAt.s)) (by rfl) (by rfl) (fun _ W hS => op_load_int rfl rfl ((cell_at hS.2 0).trans rfl)) ?_
      simp only [Act.put, List.setIfInBounds_toArray, List.set_cons_zero, List.set_cons_succ]
      refine k_val (.bool true) (by apply opN; repeat' (first | apply OpAt.z | apply OpAt.s)) (by rfl) (by rfl) (fun _ W hS => (op_neq_int rfl rfl rfl).trans (by rw [hk5.out])) ?_
      simp only [Act.put, List.setIfInBounds_toArray, List.set_cons_zero, List.set_cons_succ]
      refine k_val (.bool true) (by apply opN; repeat' (first | apply OpAt.z | apply OpAt.s)) (by rfl) (by rfl) (fun _ W hS => op_pick rfl rfl rfl rfl rfl) ?_
      simp only [Act.put, List.setIfInBounds_toArray, List.set_cons_zero, List.set_cons_succ]
      refine k_val (.bool true) (by apply opN; repeat' (first | apply OpAt.z | apply OpAt.s)) (by rfl) (by rfl) (fun _ W hS => op_mv rfl rfl) ?_
      simp only [Act.put, List.setIfInBounds_toArray, List.set_cons_zero, List.set_cons_succ]
      refine k_val (.pointer (some ⟨b3, 0, none⟩)) (by apply opN; repeat' (first | apply OpAt.z | apply OpAt.s)) (by rfl) (by rfl) (fun _ W hS => op_fa_0 rfl rfl) ?_
      simp only [Act.put, List.setIfInBounds_toArray, List.set_cons_zero, List.set_cons_succ]
      refine k_val (.int .i64 (n 0)) (by apply opN; repeat' (first | apply OpAt.z | apply OpAt.s)) (by rfl) (by rfl) (fun _ W hS => op_load_int rfl rfl ((cell_at hS.2 0).trans rfl)) ?_
      simp only [Act.put, List.setIfInBounds_toArray, List.set_cons_zero, List.set_cons_succ]
      refine k_val (.bool true) (by apply opN; repeat' (first | apply OpAt.z | apply OpAt.s)) (by rfl) (by rfl) (fun _ W hS => (op_neq_int rfl rfl rfl).trans (by rw [hk6.out])) ?_
      simp only [Act.put, List.setIfInBounds_toArray, List.set_cons_zero, List.set_cons_succ]
      refine k_val (.bool true) (by apply opN; repeat' (first | apply OpAt.z | apply OpAt.s)) (by rfl) (by rfl) (fun _ W hS => op_pick rfl rfl rfl rfl rfl) ?_
      simp only [Act.put, List.setIfInBounds_toArray, List.set_cons_zero, List.set_cons_succ]
      refine k_val (.bool true) (by apply opN; repeat' (first | apply OpAt.z | apply OpAt.s)) (by rfl) (by rfl) (fun _ W hS => op_pick rfl rfl rfl rfl rfl) ?_
      simp only [Act.put, List.setIfInBounds_toArray, List.set_cons_zero, List.set_cons_succ]
      refine k_val (.bool true) (by apply opN; repeat' (first | apply OpAt.z | apply OpAt.s)) (by rfl) (by rfl) (fun _ W hS => op_mv rfl rfl) ?_
      simp only [Act.put, List.setIfInBounds_toArray, List.set_cons_zero, List.set_cons_succ]
      refine k_skip (by apply opN; repeat' (first | apply OpAt.z | apply OpAt.s)) (by rfl) (by rfl) ?_
      simp only [Act.put, List.setIfInBounds_toArray, List.set_cons_zero, List.set_cons_succ]
      refine k_skip (by apply opN; repeat' (first | apply OpAt.z | apply OpAt.s)) (by rfl) (by rfl) ?_
      simp only [Act.put, List.setIfInBounds_toArray, List.set_cons_zero, List.set_cons_succ]
      refine k_skip (by apply opN; repeat' (first | apply OpAt.z | apply OpAt.s)) (by rfl) (by rfl) ?_
      simp only [Act.put, List.setIfInBounds_toArray, List.set_cons_zero, List.set_cons_succ]
      refine k_skip (by apply opN; repeat' (first | apply OpAt.z | apply OpAt.s)) (by rfl) (by rfl) ?_
      simp only [Act.put, List.setIfInBounds_toArray, List.set_cons_zero, List.set_cons_succ]
      refine k_skip (by apply opN; repeat' (first | apply OpAt.z | apply OpAt.s)) (by rfl) (by rfl) ?_
      simp only [Act.put, List.setIfInBounds_toArray, List.set_cons_zero, List.set_cons_succ]
      refine k_skip (by apply opN; repeat' (first | apply OpAt.z | apply OpAt.s)) (by rfl) (by rfl) ?_
      simp only [Act.put, List.setIfInBounds_toArray, List.set_cons_zero, List.set_cons_succ]
      refine k_skip (by apply opN; repeat' (first | apply OpAt.z | apply OpAt.s)) (by rfl) (by rfl) ?_
      simp only [Act.put, List.setIfInBounds_toArray, List.set_cons_zero, List.set_cons_succ]
      refine k_val (.bool true) (by apply opN; repeat' (first | apply OpAt.z | apply OpAt.s)) (by rfl) (by rfl) (fun _ W hS => op_pick rfl rfl rfl rfl rfl) ?_
      simp only [Act.put, List.setIfInBounds_toArray, List.set_cons_zero, List.set_cons_succ]
      refine k_nil ?_
      intro w4 hC4 _
      have hend := hide (hnoth.out hof w4 hC4.1)
      clear hC4
      go_wp2
      go_ret
      exact ⟨by rw [RW.addOk, hof] <;> rfl, hend.out⟩
end Go.Proofs.YtcbckcojebanaaaDoor

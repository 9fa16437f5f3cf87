/-
  Package disk: onto, settle: what they change; laws of operations in regions that draw.
-/
import Derived.Test.YtllbphanfahkkaaGreatDoorDk2
namespace Go.Proofs.YtllbphanfahkkaaGreatDoor
open Go.RowKit RG
section
variable {ev : Operand → Value} {o : Oper} {x y z : Operand} {w : World}
theorem op_mv {v : Value} (ho : o.op = .move x) (hx : ev x = v) : (execOp ev o).run Tryz.prog w = .ok (.value v) w := by
  unfold execOp
  rw [ho]
  simp only [hx]
  go_simp
theorem op_asg {v : Value} (ho : o.op = .assign x) (hx : ev x = v) : (execOp ev o).run Tryz.prog w = .ok (.value v) w := by
  unfold execOp
  rw [ho]
  simp only [hx]
  go_simp
theorem op_load_int {b i : Nat} {n : Int} (ho : o.op = .load 3 x) (hx : ev x = .pointer (some ⟨b, i, none⟩)) (hc : w.cell? ⟨b, i, none⟩ = some (.int .i64 n)) : (execOp ev o).run Tryz.prog w = .ok (.value (.int .i64 n)) w := by
  unfold execOp
  rw [ho]
  simp only [hx]
  go_simp
theorem op_load_str {b i : Nat} {s : ByteArray} (ho : o.op = .load 9 x) (hx : ev x = .pointer (some ⟨b, i, none⟩)) (hc : w.cell? ⟨b, i, none⟩ = some (.string s)) : (execOp ev o).run Tryz.prog w = .ok (.value (.string s)) w := by
  unfold execOp
  rw [ho]
  simp only [hx]
  go_simp
theorem op_load_by {b i : Nat} {p : Option Addr} {n c : Nat} (ho : o.op = .load 39 x) (hx : ev x = .pointer (some ⟨b, i, none⟩)) (hc : w.cell? ⟨b, i, none⟩ = some (.slice p n c)) : (execOp ev o).run Tryz.prog w = .ok (.value (.slice p n c)) w := by
  unfold execOp
  rw [ho]
  simp only [hx]
  go_simp
theorem op_load_ws {b i : Nat} {p : Option Addr} {n c : Nat} (ho : o.op = .load 104 x) (hx : ev x = .pointer (some ⟨b, i, none⟩)) (hc : w.cell? ⟨b, i, none⟩ = some (.slice p n c)) : (execOp ev o).run Tryz.prog w = .ok (.value (.slice p n c)) w := by
  unfold execOp
  rw [ho]
  simp only [hx]
  go_simp
theorem op_fa_w0 {b i : Nat} (ho : o.op = .fieldAddr 103 x 0) (hx : ev x = .pointer (some ⟨b, i, none⟩)) : (execOp ev o).run Tryz.prog w = .ok (.value (.pointer (some ⟨b, i, none⟩))) w := by
  unfold execOp
  rw [ho]
  simp only [hx]
  go_simp
theorem op_fa_w1 {b i : Nat} (ho : o.op = .fieldAddr 103 x 1) (hx : ev x = .pointer (some ⟨b, i, none⟩)) : (execOp ev o).run Tryz.prog w = .ok (.value (.pointer (some ⟨b, i + 1, none⟩))) w := by
  unfold execOp
  rw [ho]
  simp only [hx]
  go_simp
theorem op_fa_d {b i k : Nat} (hi : i < 4) (hk : k = (if i = 0 then 0 else i + 1)) (ho : o.op = .fieldAddr 108 x i) (hx : ev x = .pointer (some ⟨b, 0, none⟩)) : (execOp ev o).run Tryz.prog w = .ok (.value (.pointer (some ⟨b, k, none⟩))) w := by
  subst hk
  rcases i with _ | _ | _ | _ | i
  all_goals first | omega | skip
  all_goals
    unfold execOp
    rw [ho]
    simp only [hx]
    go_simp
theorem op_nc {p : Addr} (ho : o.op = .nilCheck x) (hx : ev x = .pointer (some p)) : (execOp ev o).run Tryz.prog w = .ok (.value (.pointer (some p))) w := by
  unfold execOp
  rw [ho]
  simp only [hx]
  go_simp
theorem op_slice_by {g n i : Nat} (ho : o.op = .slice 39 x (some y) none none) (hx : ev x = .slice (some ⟨g, 0, none⟩) n n) (hy : ev y = .int .i64 i) (hi : i ≤ n) : (execOp ev o).run Tryz.prog w = .ok (.value (.slice (if n = i then some ⟨g, 0, none⟩ else some ⟨g, i, none⟩) (n - i) (n - i))) w := by
  unfold execOp
  rw [ho]
  go_simp
theorem op_copy {s t : TypeId} {u v r : Value} {w' : World} (ho : o.op = .call { callee := .builtin .copy, args := #[x, y], argTypes := #[s, t] }) (hx : ev x = u) (hy : ev y = v) (hr : (Builtin.copy_ #[s, t] o.type #[u, v]).run Tryz.prog w = .ok r w') : (execOp ev o).run Tryz.prog w = .ok (.value r) w' := by
  unfold execOp
  simp only [ho, resolve, invoke, builtin, Sem.run_bind, Sem.run_pure, Result.andThen_ok, List.map_toArray, List.map_cons, List.map_nil, hx, hy, hr]
theorem op_app {t : TypeId} {v s v' : Value} {w' : World} (ho : o.op = .call { callee := .builtin .append, args := #[x, y], argTypes := #[t, t] }) (hx : ev x = v) (hy : ev y = s) (hr : (Builtin.append_ #[t, t] o.type #[v, s]).run Tryz.prog w = .ok v' w') :
    (execOp ev o).run Tryz.prog w = .ok (.value v') w' := by
  unfold execOp
  simp only [ho, resolve, invoke, builtin, Sem.run_bind, Sem.run_pure, Result.andThen_ok, List.map_toArray, List.map_cons, List.map_nil, hx, hy, hr]
theorem op_x2 {D : Value → World → Prop} {k : Nat} {ts : Array TypeId} {n m : Value} (ho : o.op = .call ⟨.value (.func k), #[x, y], ts⟩) (hf : ev (.func k) = .func (.func k) #[] #[]) (hx : ev x = n) (hy : ev y = m) (hk : ∀ args w, (callFunc k args).run Tryz.prog w = .ok (.enter k args) w)
    (h : Calls Tryz.prog k #[n, m] w fun e w'' => ∃ u, e = .returned u ∧ D u w'') : XUp Tryz.prog D ((execOp ev o).run Tryz.prog w) := by
  have h1 : (execOp ev o).run Tryz.prog w = .ok (.enter k #[n, m]) w := by
    unfold execOp
    rw [ho]
    go_simp
  rw [h1]
  exact h
theorem op_x3 {D : Value → World → Prop} {k : Nat} {ts : Array TypeId} {a b c : Value} (ho : o.op = .call ⟨.value (.func k), #[x, y, z], ts⟩) (hf : ev (.func k) = .func (.func k) #[] #[]) (hx : ev x = a) (hy : ev y = b) (hz : ev z = c) (hk : ∀ args w, (callFunc k args).run Tryz.prog w = .ok (.enter k args) w)
    (h : Calls Tryz.prog k #[a, b, c] w fun e w'' => ∃ u, e = .returned u ∧ D u w'') : XUp Tryz.prog D ((execOp ev o).run Tryz.prog w) := by
  have h1 : (execOp ev o).run Tryz.prog w = .ok (.enter k #[a, b, c]) w := by
    unfold execOp
    rw [ho]
    go_simp
  rw [h1]
  exact h
end
theorem byte_info : (Tryz.prog.info? 5).map (·.size) = some 1 := by kernel_rfl
theorem write_size (x : Nat × ByteArray) : (Tryz.prog.info? 103).map (·.size) = some (RW.wrl x).length := by kernel_rfl
set_option maxRecDepth 10000 in
set_option maxHeartbeats 1000000 in
theorem onto_any (i : Nat) (s : ByteArray) (vb n : Nat) (l : List UInt8) (w : World) (hr : w.heap[vb]? = some (.cells (RW.byl l).toArray 5 (0, 0))) (hl : l.length = n) (hi : i + s.size ≤ n) (hn : n ≤ 4194304) :
    Calls Tryz.prog 53 #[.agg (RW.wrl (i, s)).toArray, .slice (some ⟨vb, 0, none⟩) n n] w fun e w' => (∃ v, e = .returned v) ∧ w'.heap[vb]? = some (.cells (RW.byl (RW.lay l i s.data.toList)).toArray 5 (0, 0)) ∧ Chg vb w w' := by
  obtain ⟨rb, hrb⟩ : ∃ b, b = w.heap.size := ⟨_, rfl⟩
  have hlt := (Array.getElem?_eq_some_iff.1 hr).1
  have hx0 := hide (show (w.alloc (.cells (RW.wrl (i, s)).toArray 103)).heap[rb]? = some (.cells (RW.wrl (i, s)).toArray 103 (0, 0)) from newAt hrb)
  have hv0 := hide ((Below.heap_alloc w (.cells (RW.wrl (i, s)).toArray 103) vb hlt).trans hr)
  have hC0 := hide (Chg.new (b := vb) ((Below.refl w.heap.size w).alloc (Nat.le_refl _) (.cells (RW.wrl (i, s)).toArray 103)))
  have hne := hide (show rb ≠ vb by omega)
  have hlH := hide hl
  have hiH := hide hi
  have hrbH := hide hrb
  clear hr hrb hlt
  go_enter Tryz.func53, Tryz.ntmps53
  go_upto_region 1 with fail
  rw [← hrbH.out]
  refine gen_w (fun W => W.heap[rb]? = some (.cells (RW.wrl (i, s)).toArray 103 (0, 0)) ∧ W.heap[vb]? = some (.cells (RW.byl l).toArray 5 (0, 0)) ∧ Chg vb w W) ⟨hx0.out, hv0.out, hC0.out⟩ ?_
  rintro w1 ⟨g1, g2, g3⟩
  have hx1 := hide g1
  have hv1 := hide g2
  have hC1 := hide g3
  clear g1 g2 g3 hx0 hv0 hC0 hl hi
  refine wp_region_k (fun _ W => W.heap[rb]? = some (.cells (RW.wrl (i, s)).toArray 103 (0, 0))) (fun W => W.heap[vb]? = some (.cells (RW.byl l).toArray 5 (0, 0)) ∧ Chg vb w W) [6] (.op 0 (.op 1 (.op 2 (.op 3 (.op 4 (.op 5 (.op 6 .nil))))))) (by kernel_rfl) (by kernel_rfl) (by rfl) (by kernel_rfl) hx1.out ⟨hv1.out, hC1.out.trans ⟨rfl, rfl, rfl, Nat.le_refl _, fun _ _ _ => rfl⟩⟩ ?_
  refine k_val (.slice (some ⟨vb, 0, none⟩) n n) (by apply opN; repeat' (first | apply OpAt.z | apply OpAt.s)) (by rfl) (by rfl) (fun _ W hS => op_mv rfl rfl) ?_
  simp only [Act.put, List.setIfInBounds_toArray, List.set_cons_zero, List.set_cons_succ]
  refine k_val (.pointer (some ⟨rb, 0, none⟩)) (by apply opN; repeat' (first | apply OpAt.z | apply OpAt.s)) (by rfl) (by rfl) (fun _ W hS => op_fa_w0 rfl rfl) ?_
  simp only [Act.put, List.setIfInBounds_toArray, List.set_cons_zero, List.set_cons_succ]
  refine k_val (.int .i64 (i : Int)) (by apply opN; repeat' (first | apply OpAt.z | apply OpAt.s)) (by rfl) (by rfl) (fun _ W hS => op_load_int rfl rfl (cellAt hS 0)) ?_
  simp only [Act.put, List.setIfInBounds_toArray, List.set_cons_zero, List.set_cons_succ]
  refine k_val (.slice (if n = i then some ⟨vb, 0, none⟩ else some ⟨vb, i, none⟩) (n - i) (n - i)) (by apply opN; repeat' (first | apply OpAt.z | apply OpAt.s)) (by rfl) (by rfl) (fun _ W hS => op_slice_by rfl rfl rfl (by have := hiH.out; omega)) ?_
  simp only [Act.put, List.setIfInBounds_toArray, List.set_cons_zero, List.set_cons_succ]
  refine k_val (.pointer (some ⟨rb, 1, none⟩)) (by apply opN; repeat' (first | apply OpAt.z | apply OpAt.s)) (by rfl) (by rfl) (fun _ W hS => op_fa_w1 rfl rfl) ?_
  simp only [Act.put, List.setIfInBounds_toArray, List.set_cons_zero, List.set_cons_succ]
  refine k_val (.string s) (by apply opN; repeat' (first | apply OpAt.z | apply OpAt.s)) (by rfl) (by rfl) (fun _ W hS => op_load_str rfl rfl (cellAt hS 1)) ?_
  simp only [Act.put, List.setIfInBounds_toArray, List.set_cons_zero, List.set_cons_succ]
  refine k_step (fun K' u => K' = fun W => W.heap[vb]? = some (.cells (RW.byl (RW.lay l i s.data.toList)).toArray 5 (0, 0)) ∧ Chg vb w W) (by apply opN; repeat' (first | apply OpAt.z | apply OpAt.s)) (by rfl) (by rfl) (by rfl) (fun W hC hK => ?_) ?_
  · have hdl : s.data.toList.length = s.size := by rw [Array.length_toList]; rfl
    by_cases hni : n = i
    · have hs0 : s.size = 0 := by have := hiH.out; omega
      have hd0 : s.data.toList = [] := List.eq_nil_of_length_eq_zero (by omega)
      have hrun := run_copy_str (P := Tryz.prog) W 39 9 3 5 vb 0 (n - i) (n - i) s _ _ Tryz.underlying39 byte_info hK.1 (by omega) (by rw [hs0]; simp)
      rw [if_pos hni]
      rw [op_copy rfl rfl rfl hrun]
      refine ⟨(setRow_else _ _ _ _ hne.out).trans hC, _, ⟨(setRow_heap _ _ _ _ _ _ hK.1).trans ?_, hK.2.row _⟩, rfl⟩
      rw [hd0, hs0]
      simp [RW.lay, Go.splice, RW.byl]
    · have hrun := run_copy_str (P := Tryz.prog) W 39 9 3 5 vb i (n - i) (n - i) s _ _ Tryz.underlying39 byte_info hK.1 (by have := hiH.out; omega) (by rw [List.size_toArray, byl_len, hlH.out]; exact hiH.out)
      rw [if_neg hni]
      rw [op_copy rfl rfl rfl hrun]
      refine ⟨(setRow_else _ _ _ _ hne.out).trans hC, _, ⟨(setRow_heap _ _ _ _ _ _ hK.1).trans ?_, hK.2.row _⟩, rfl⟩
      rw [byl_lay, Go.splice, byl_len, hdl, List.append_assoc]
  rintro _ _ rfl
  simp only [Act.put, List.setIfInBounds_toArray, List.set_cons_zero, List.set_cons_succ]
  refine k_nil ?_
  intro W hC hK
  have hKH := hide hK
  clear hC hK
  go_wp2
  all_goals go_end0
  all_goals exact ⟨⟨_, rfl⟩, hKH.out.1, hKH.out.2⟩
end Go.Proofs.YtllbphanfahkkaaGreatDoor

/-
  Package royaltylaw25: vote: what it returns; only new memory is written.
-/
import Derived.Test.YtcbckcojebanaaaDoorRs4
import Derived.Test.YtcbckcojebanaaaDoorBq
namespace Go.Proofs.YtcbckcojebanaaaDoor
open Go.RowKit RG
namespace RW
/-- five numbers' cells -/
def five (x : Nat → Int) : Array Value := #[.int .i64 (x 0), .int .i64 (x 1), .int .i64 (x 2), .int .i64 (x 3), .int .i64 (x 4)]
/-- the digest that a number from 0 to 3 determines -/
def dgst (c : Int) : ByteArray := if 0 < c then ⟨(sha k0F [UInt8.ofNat c.toNat]).toArray⟩ else ⟨#[]⟩
/-- the numbers of the vote that five numbers determine -/
def vn (x : Nat → Int) (i : Nat) : Int := if i = 0 then 4 + pickI (x 0) 3 else if i = 1 then pickI (x 1) 7 else if i = 2 then (pickI (x 1) 7 + 1) % 7 else if i = 3 then pickI (x 2) 2 else if i = 4 then pickI (x 3) 3 else 0
def vd (x : Nat → Int) : ByteArray := dgst (pickI (x 4) 4)
theorem dgst_len (c : Int) : (dgst c).data.toList.length = 32 ∨ (dgst c).data.toList = [] := by
  unfold dgst
  split
  · exact .inl (bsha_len _ _)
  · exact .inr rfl
end RW
theorem five_info (x : Nat → Int) : (Tryd.prog.info? 49).map (·.size) = some (RW.five x).size := by kernel_rfl
theorem cf_pick : ∀ args w, (callFunc 22 args).run Tryd.prog w = .ok (.enter 22 args) w := fun args w => by go_simp
theorem op_idx5 {ev : Operand → Value} {o : Oper} {x : Operand} {b i : Nat} {w : World} (ho : o.op = .indexAddr 49 x (.const (.int .i64 i))) (hi : ev (.const (.int .i64 i)) = .int .i64 i) (hx : ev x = .pointer (some ⟨b, 0, none⟩)) (h5 : i < 5) : (execOp ev o).run Tryd.prog w = .ok (.value (.pointer (some ⟨b, i, none⟩))) w := by
  unfold execOp
  rw [ho]
  go_simp
  intro h
  omega
theorem op_alloc {ev : Operand → Value} {o : Oper} {w : World} (ho : o.op = .alloc 24) : (execOp ev o).run Tryd.prog w = .ok (.value (.pointer (some ⟨w.heap.size, 0, none⟩))) (w.alloc (.cells RW.noM 24)) := by
  unfold execOp
  rw [ho]
  go_simp
  rfl
theorem op_add {ev : Operand → Value} {o : Oper} {x y : Operand} {m n r : Int} {w : World} (ho : o.op = .binOp .add 3 x y 3) (hx : ev x = .int .i64 m) (hy : ev y = .int .i64 n) (h : m + n = r) (hb : -9223372036854775808 ≤ r ∧ r ≤ 9223372036854775807) : (execOp ev o).run Tryd.prog w = .ok (.value (.int .i64 r)) w := by
  have e : IntKind.i64.wrap (m + n) = r := by rw [h]; exact IntWalk.i64_in _ hb
  unfold execOp
  rw [ho]
  clear hb h
  go_simp
theorem op_call2 {ev : Operand → Value} {o : Oper} {x y : Operand} {k : Nat} {ts : Array TypeId} {n l : Value} {w : World} (ho : o.op = .call ⟨.value (.func k), #[x, y], ts⟩) (hf : ev (.func k) = .func (.func k) #[] #[]) (hx : ev x = n) (hy : ev y = l) (hk : ∀ args w, (callFunc k args).run Tryd.prog w = .ok (.enter k args) w) : (execOp ev o).run Tryd.prog w = .ok (.enter k #[n, l]) w := by
  unfold execOp
  rw [ho]
  go_simp
theorem op_build_msg {ev : Operand → Value} {o : Oper} {x0 x1 x3 x4 : Operand} {n : Nat → Int} {w : World} (ho : o.op = .build 24 #[(0, x0), (1, x1), (3, x3), (4, x4)]) (h0 : ev x0 = .int .i64 (n 0)) (h1 : ev x1 = .int .i64 (n 1)) (h2 : n 2 = 0) (h3 : ev x3 = .int .i64 (n 3)) (h4 : ev x4 = .int .i64 (n 4)) (h5 : n 5 = 0) :
    (execOp ev o).run Tryd.prog w = .ok (.value (.agg (RW.mcells n ⟨#[]⟩ (.slice none 0 0)))) w := by
  unfold RW.mcells
  rw [h2, h5]
  unfold execOp
  rw [ho]
  go_simp
theorem op_store_agg {ev : Operand → Value} {o : Oper} {x y : Operand} {b : Nat} {cs : Array Value} {w w' : World} (ho : o.op = .store 24 x y) (hx : ev x = .pointer (some ⟨b, 0, none⟩)) (hy : ev y = .agg cs) (hr : (stMsg 24 (.pointer (some ⟨b, 0, none⟩)) (.agg cs)).run Tryd.prog w = .ok () w') : (execOp ev o).run Tryd.prog w = .ok .skip w' := by
  unfold execOp
  simp only [ho, hx, hy, Sem.run_bind]
  rw [show Instr.storeAt 24 (.pointer (some ⟨b, 0, none⟩)) (.agg cs) = stMsg 24 (.pointer (some ⟨b, 0, none⟩)) (.agg cs) from rfl, hr]
  rfl
/-- three worlds, one behind the other -/
def stw3 (W0 W1 W2 : World) : Nat → World → Prop
  | 0, w => w = W0
  | 1, w => w = W1
  | _, w => w = W2
theorem stw3_two {W0 W1 W2 w : World} {j : Nat} (h : stw3 W0 W1 W2 j w) (hj : j ≤ 1) : w = W0 ∨ w = W1 := by
  have : j = 0 ∨ j = 1 := by omega
  rcases this with rfl | rfl
  · exact .inl h
  · exact .inr h
set_option maxRecDepth 100000 in
set_option maxHeartbeats 4000000 in
theorem vote5_any (x : Nat → Int) (hx : ∀ i, i < 5 → -9223372036854775808 ≤ x i ∧ x i ≤ 9223372036854775807) (w : World) :
    Calls Tryd.prog 30 #[.agg (RW.five x)] w fun e w' => e = .returned (.agg (RW.mcells (RW.vn x) (RW.vd x) (.slice none 0 0))) ∧ Below w.heap.size w w' := by
  obtain ⟨B, hB⟩ : ∃ B, B = w.heap.size := ⟨_, rfl⟩
  have hP := fun (c m : Int) (h : -9223372036854775808 ≤ c ∧ c ≤ 9223372036854775807) (h1 : 1 ≤ m) (h2 : m ≤ 7) W => pick_any c m h.1 h.2 h1 (by omega) W
  have hPH := hide hP
  have hxH := hide hx
  have hBH := hide hB
  have hr1 : ((w.alloc (.cells (RW.five x) 49)).alloc (.cells RW.noM 24)).heap[B]? = some (.cells (RW.five x) 49 (0, 0)) := (Below.heap_alloc _ _ _ (by simp; omega)).trans (heap_new_at hB)
  have hr2 : ((w.alloc (.cells (RW.five x) 49)).alloc (.cells RW.noM 24)).heap[B + 1]? = some (.cells RW.noM 24 (0, 0)) := heap_new_at (by simp; omega)
  have hz : ((w.alloc (.cells (RW.five x) 49)).alloc (.cells RW.noM 24)).heap.size = B + 2 := by simp; omega
  have hBl : Below B w ((w.alloc (.cells (RW.five x) 49)).alloc (.cells RW.noM 24)) := ((Below.refl B w).alloc (by omega) _).alloc (by simp; omega) _
  clear hP hx hB
  go_enter Tryd.func30, Tryd.ntmps30
  go_upto_region 1 with fail
  rw [← hBH.out]
  refine gen_world (fun W => W.heap[B]? = some (.cells (RW.five x) 49 (0, 0)) ∧ W.heap[B + 1]? = some (.cells RW.noM 24 (0, 0)) ∧ W.heap.size = B + 2 ∧ Below B w W) ⟨hr1, hr2, hz, hBl⟩ ?_
  clear hr1 hr2 hz hBl
  rintro W0 ⟨hr1, hr2, hz, hBl⟩
  have hca : ∀ o i, i < 5 → ((W0.drew.alloc o).cell? ⟨B, i, none⟩ = some (.int .i64 (x i)) ∧ W0.drew.cell? ⟨B, i, none⟩ = some (.int .i64 (x i))) := fun o i hi => by
    have h5 : (RW.five x)[i]? = some (.int .i64 (x i)) := by
      have h' : i = 0 ∨ i = 1 ∨ i = 2 ∨ i = 3 ∨ i = 4 := by omega
      rcases h' with rfl | rfl | rfl | rfl | rfl <;> rfl
    refine ⟨(cell_at ((Below.heap_alloc _ _ _ (by show B < W0.heap.size; omega)).trans (show W0.drew.heap[B]? = _ from hr1)) i).trans h5, (cell_at (show W0.drew.heap[B]? = _ from hr1) i).trans h5⟩
  have hnew : (W0.drew.alloc (.cells RW.noM 24)).heap[B + 2]? = some (.cells RW.noM 24 (0, 0)) := heap_new_at (by show B + 2 = W0.heap.size; omega)
  have hst := msg_st (n := fun _ => 0) (n2 := fun i => if i = 2 then 0 else RW.vn x i) (d := ⟨#[]⟩) (d2 := ⟨#[]⟩) (v := .slice none 0 0) (v2 := .slice none 0 0) hnew rfl
  have hrun : ∀ c m (hc : c < 5) (h1 : 1 ≤ m) (h2 : m ≤ 7) (W : World) (S : World → Prop), S W → Calls Tryd.prog 22 #[.int .i64 (x c), .int .i64 m] W fun e w' => e = .returned (.int .i64 (RW.pickI (x c) m)) ∧ S w' := fun c m hc h1 h2 W S hS => by
    refine (hPH.out (x c) m (hxH.out c hc) h1 h2 W).mono ?_
    rintro e w' ⟨rfl, rfl⟩
    exact ⟨rfl, hS⟩
  have hp3 := RW.pickI_bd (x 0) 3 (by decide)
  have hp3' : 4 + RW.pickI (x 0) 3 = RW.vn x 0 := rfl
  have hq3 : -9223372036854775808 ≤ RW.vn x 0 ∧ RW.vn x 0 ≤ 9223372036854775807 := by omega
  refine wp_region_staged (stw3 W0.drew (W0.drew.alloc (.cells RW.noM 24)) ((W0.drew.alloc (.cells RW.noM 24)).setRow (B + 2) (RW.mcells (fun i => if i = 2 then 0 else RW.vn x i) ⟨#[]⟩ (.slice none 0 0)))) [14, 15] (by kernel_rfl) (by kernel_rfl) (by rfl) rfl ?_
  refine st_val (.pointer (some ⟨B, 0, none⟩)) (by rfl) (by rfl) (fun w => op_idx5 (i := 0) rfl rfl rfl (by decide)) ?_
  simp only [Act.put, List.setIfInBounds_toArray, List.set_cons_zero, List.set_cons_succ]
  refine st_op_in 0 1 (.int .i64 (x 0)) (by rfl) (by rfl) (.inl rfl) (.inr (by decide +kernel)) (fun j w' _ hj hS => by rw [op_load_int (n := x 0) rfl rfl (by rcases stw3_two hS hj with rfl | rfl; exact (hca (.cells #[] 0) 0 (by decide)).2; exact (hca _ 0 (by decide)).1)]; exact ⟨rfl, hS⟩) ?_
  simp only [Act.put, List.setIfInBounds_toArray, List.set_cons_zero, List.set_cons_succ]
  refine st_op (.int .i64 (RW.pickI (x 0) 3)) (by rfl) (by rfl) (fun j w' _ hS => by rw [op_call2 rfl rfl rfl rfl cf_pick]; exact hrun 0 3 (by decide) (by decide) (by decide) w' _ hS) ?_
  simp only [Act.put, List.setIfInBounds_toArray, List.set_cons_zero, List.set_cons_succ]
  refine st_val (.int .i64 (RW.vn x 0)) (by rfl) (by rfl) (fun w => op_add rfl rfl rfl hp3' hq3) ?_
  simp only [Act.put, List.setIfInBounds_toArray, List.set_cons_zero, List.set_cons_succ]
  refine st_val (.pointer (some ⟨B, 1, none⟩)) (by rfl) (by rfl) (fun w => op_idx5 (i := 1) rfl rfl rfl (by decide)) ?_
  simp only [Act.put, List.setIfInBounds_toArray, List.set_cons_zero, List.set_cons_succ]
  refine st_op_in 0 1 (.int .i64 (x 1)) (by rfl) (by rfl) (.inl rfl) (.inr (by decide +kernel)) (fun j w' _ hj hS => by rw [op_load_int (n := x 1) rfl rfl (by rcases stw3_two hS hj with rfl | rfl; exact (hca (.cells #[] 0) 1 (by decide)).2; exact (hca _ 1 (by decide)).1)]; exact ⟨rfl, hS⟩) ?_
  simp only [Act.put, List.setIfInBounds_toArray, List.set_cons_zero, List.set_cons_succ]
  refine st_op (.int .i64 (RW.pickI (x 1) 7)) (by rfl) (by rfl) (fun j w' _ hS => by rw [op_call2 rfl rfl rfl rfl cf_pick]; exact hrun 1 7 (by decide) (by decide) (by decide) w' _ hS) ?_
  simp only [Act.put, List.setIfInBounds_toArray, List.set_cons_zero, List.set_cons_succ]
  refine st_val (.pointer (some ⟨B, 2, none⟩)) (by rfl) (by rfl) (fun w => op_idx5 (i := 2) rfl rfl rfl (by decide)) ?_
  simp only [Act.put, List.setIfInBounds_toArray, List.set_cons_zero, List.set_cons_succ]
  refine st_op_in 0 1 (.int .i64 (x 2)) (by rfl) (by rfl) (.inl rfl) (.inr (by decide +kernel)) (fun j w' _ hj hS => by rw [op_load_int (n := x 2) rfl rfl (by rcases stw3_two hS hj with rfl | rfl; exact (hca (.cells #[] 0) 2 (by decide)).2; exact (hca _ 2 (by decide)).1)]; exact ⟨rfl, hS⟩) ?_
  simp only [Act.put, List.setIfInBounds_toArray, List.set_cons_zero, List.set_cons_succ]
  refine st_op (.int .i64 (RW.pickI (x 2) 2)) (by rfl) (by rfl) (fun j w' _ hS => by rw [op_call2 rfl rfl rfl rfl cf_pick]; exact hrun 2 2 (by decide) (by decide) (by decide) w' _ hS) ?_
  simp only [Act.put, List.setIfInBounds_toArray, List.set_cons_zero, List.set_cons_succ]
  refine st_val (.pointer (some ⟨B, 3, none⟩)) (by rfl) (by rfl) (fun w => op_idx5 (i := 3) rfl rfl rfl (by decide)) ?_
  simp only [Act.put, List.setIfInBounds_toArray, List.set_cons_zero, List.set_cons_succ]
  refine st_op_in 0 1 (.int .i64 (x 3)) (by rfl) (by rfl) (.inl rfl) (.inr (by decide +kernel)) (fun j w' _ hj hS => by rw [op_load_int (n := x 3) rfl rfl (by rcases stw3_two hS hj with rfl | rfl; exact (hca (.cells #[] 0) 3 (by decide)).2; exact (hca _ 3 (by decide)).1)]; exact ⟨rfl, hS⟩) ?_
  simp only [Act.put, List.setIfInBounds_toArray, List.set_cons_zero, List.set_cons_succ]
  refine st_op (.int .i64 (RW.pickI (x 3) 3)) (by rfl) (by rfl) (fun j w' _ hS => by rw [op_call2 rfl rfl rfl rfl cf_pick]; exact hrun 3 3 (by decide) (by decide) (by decide) w' _ hS) ?_
  simp only [Act.put, List.setIfInBounds_toArray, List.set_cons_zero, List.set_cons_succ]
  refine st_val (.agg (RW.mcells (fun i => if i = 2 then 0 else RW.vn x i) ⟨#[]⟩ (.slice none 0 0))) (by rfl) (by rfl) (fun w => op_build_msg rfl rfl rfl rfl rfl rfl rfl) ?_
  simp only [Act.put, List.setIfInBounds_toArray, List.set_cons_zero, List.set_cons_succ]
  refine st_step 0 (.pointer (some ⟨B + 2, 0, none⟩)) (by rfl) (by rfl) (by decide +kernel) (fun w' hS => by have hS : w' = _ := hS; subst hS; rw [op_alloc rfl]; exact ⟨by show _ = Value.pointer (some ⟨B + 2, 0, none⟩); rw [← hz]; rfl, rfl⟩) ?_
  simp only [Act.put, List.setIfInBounds_toArray, List.set_cons_zero, List.set_cons_succ]
  refine st_step 1 undef (by rfl) (by rfl) (by decide +kernel) (fun w' hS => by have hS : w' = _ := hS; subst hS; rw [op_store_agg rfl rfl rfl hst]; exact ⟨rfl, rfl⟩) ?_
  simp only [Act.put]
  refine st_nil ?_
  intro W' hW'
  have hW' : W' = _ := hW'
  go_upto_region 2 with fail
  refine gen_world (fun W => W.heap[B]? = some (.cells (RW.five x) 49 (0, 0)) ∧ W.heap[B + 1]? = some (.cells RW.noM 24 (0, 0)) ∧ W.heap[B + 2]? = some (.cells (RW.mcells (fun i => if i = 2 then 0 else RW.vn x i) ⟨#[]⟩ (.slice none 0 0)) 24 (0, 0)) ∧ Below B w W) ?_ ?_
  · rw [hW']
    have e1 : ∀ k, k < B + 2 → ((W0.drew.alloc (.cells RW.noM 24)).setRow (B + 2) (RW.mcells (fun i => if i = 2 then 0 else RW.vn x i) ⟨#[]⟩ (.slice none 0 0))).heap[k]? = W0.heap[k]? := fun k hk => (setRow_other _ _ _ _ (by omega)).trans (Below.heap_alloc W0.drew _ _ (by show k < W0.heap.size; omega))
    refine ⟨(e1 B (by omega)).trans hr1, (e1 (B + 1) (by omega)).trans hr2, setRow_heap _ _ _ _ _ _ hnew, RW.below_setRow ((hBl.drew).alloc (by show B ≤ W0.heap.size; omega) _) (by omega) _⟩
  clear hst hrun hca hnew hr1 hr2 hz hBl hW' hp3 hp3' hq3
  rintro W2 ⟨hr1, hr2, hr3, hBl⟩
  have c1 : W2.cell? ⟨B + 2, 1, none⟩ = some (.int .i64 (RW.pickI (x 1) 7)) := (cell_at hr3 1).trans rfl
  have c2 : W2.cell? ⟨B + 2, 2, none⟩ = some (.int .i64 0) := (cell_at hr3 2).trans rfl
  have f2 : W2.frozen? ⟨B + 2, 2, none⟩ = false := by simp [World.frozen?, hr3]
  obtain ⟨hp7a, hp7b⟩ := RW.pickI_bd (x 1) 7 (by decide)
  obtain ⟨p7, hp7⟩ : ∃ p, p = RW.pickI (x 1) 7 := ⟨_, rfl⟩
  rw [← hp7] at c1 hp7a hp7b
  have hp7H := hide hp7
  have hr1H := hide hr1
  have hr2H := hide hr2
  have hr3H := hide hr3
  have hBlH := hide hBl
  clear hp7 hr1 hr2 hr3 hBl
  go_upto_region 3 with fail
  have he : (RW.mcells (fun i => if i = 2 then 0 else RW.vn x i) ⟨#[]⟩ (.slice none 0 0)).setIfInBounds 2 (.int .i64 ((p7 + 1) % 7)) = RW.mcells (RW.vn x) ⟨#[]⟩ (.slice none 0 0) := by
    rw [hp7H.out]
    rfl
  refine gen_world (fun W => W.heap[B]? = some (.cells (RW.five x) 49 (0, 0)) ∧ W.heap[B + 1]? = some (.cells RW.noM 24 (0, 0)) ∧ W.heap[B + 2]? = some (.cells (RW.mcells (RW.vn x) ⟨#[]⟩ (.slice none 0 0)) 24 (0, 0)) ∧ Below B w W) ?_ ?_
  · exact ⟨(Below.heap_setCell _ _ _ _ (by show B ≠ B + 2; omega)).trans hr1H.out, (Below.heap_setCell _ _ _ _ (by show B + 1 ≠ B + 2; omega)).trans hr2H.out, by rw [← he]; exact heap_setCell_same _ _ _ _ _ _ hr3H.out, hBlH.out.setCell (by show B ≤ B + 2; omega) _⟩
  clear he c1 c2 f2 hr1H hr2H hr3H hBlH hp7H hp7a hp7b
  rintro W3 ⟨hr1, hr2, hr3, hBl⟩
  have c4 : W3.cell? ⟨B, 4, none⟩ = some (.int .i64 (x 4)) := (cell_at hr1 4).trans rfl
  obtain ⟨h4a, h4b⟩ := RW.pickI_bd (x 4) 4 (by decide)
  have hp4 := hPH.out (x 4) 4 (hxH.out 4 (by decide)) (by decide) (by decide)
  have hvd : RW.vd x = RW.dgst (RW.pickI (x 4) 4) := rfl
  obtain ⟨p4, hp4e⟩ : ∃ p, p = RW.pickI (x 4) 4 := ⟨_, rfl⟩
  rw [← hp4e] at hp4 hvd h4a h4b
  have hp4H := hide hp4
  have hvdH := hide hvd
  have hr2H := hide hr2
  have hr3H := hide hr3
  have hBlH := hide hBl
  clear hp4 hp4e hvd hr1 hr2 hr3 hBl hPH hxH
  by_cases h0 : p4 = 0
  · subst h0
    have hd : RW.vd x = ⟨#[]⟩ := by rw [hvdH.out]; rfl
    have hdH := hide hd
    have hr3 := hr3H.out
    have hr2 := hr2H.out
    have hci := msg_info (RW.vn x) ⟨#[]⟩ (.slice none 0 0)
    have hco := msg_one (RW.vn x) ⟨#[]⟩ (.slice none 0 0) rfl
    clear hd hvdH
    go_wp2_with (first
      | (go_at_call 22; refine (hp4H.out _).mono ?_; rintro e w' ⟨rfl, rfl⟩)
      | (refine wpList_load_row rfl 24 (.tmp 3) rfl (B + 2) rfl 24 (RW.mcells (RW.vn x) ⟨#[]⟩ (.slice none 0 0)) (0, 0) _ hr3 Tryd.underlying24 rfl hci ?_)
      | (refine wpList_store_row rfl 24 (.tmp 2) (.tmp 35) rfl (B + 1) (RW.mcells (RW.vn x) ⟨#[]⟩ (.slice none 0 0)) rfl rfl 24 RW.noM hr2 hci rfl hco ?_))
    refine bodyPost_ret (results_cell_row rfl _ _ (B + 1) 24 (RW.mcells (RW.vn x) ⟨#[]⟩ (.slice none 0 0)) (0, 0) _ rfl (setRow_heap _ _ _ _ _ _ hr2) Tryd.underlying24 rfl hci) rfl ⟨by rw [hdH.out], ?_⟩
    rw [← hBH.out]
    exact RW.below_setRow hBlH.out (by omega) _
  · have h1 : 0 < p4 := by omega
    have h2 : p4 ≤ 3 := by omega
    go_upto_region 5 with (first
      | (go_at_call 22; refine (hp4H.out _).mono ?_; rintro e w' ⟨rfl, rfl⟩))
    have hb4 : ((UInt8.ofNat p4.toNat).toNat : Int) = p4 := by
      have h' : p4 = 1 ∨ p4 = 2 ∨ p4 = 3 := by omega
      rcases h' with rfl | rfl | rfl <;> rfl
    have hcv : (convert 60 9 (.slice (some ⟨W3.heap.size, 0, none⟩) 1 1)).run Tryd.prog (W3.alloc (.cells #[.int .u8 p4] 5)) = .ok (.string ⟨#[UInt8.ofNat p4.toNat]⟩) (W3.alloc (.cells #[.int .u8 p4] 5)) := by
      refine run_convert_bytes_back (P := Tryd.prog) _ 60 9 5 ⟨W3.heap.size, 0, none⟩ 1 [UInt8.ofNat p4.toNat] Tryd.underlying60 Tryd.underlying5 Tryd.underlying9 (fun j hj => ?_)
      obtain rfl : j = 0 := by simpa using hj
      rw [show ((⟨W3.heap.size, 0, none⟩ : Addr).add 0) = ⟨W3.heap.size, 0, none⟩ by simp [Addr.add], cell_at (heap_new_at rfl)]
      show some (Value.int .u8 p4) = some (.int .u8 ((UInt8.ofNat p4.toNat).toNat : Int))
      rw [hb4]
    have hS := rsum_any ⟨#[UInt8.ofNat p4.toNat]⟩ (by show 1 ≤ _; omega) (W3.alloc (.cells #[.int .u8 p4] 5))
    have hd : RW.vd x = ⟨(RW.sha RW.k0F [UInt8.ofNat p4.toNat]).toArray⟩ := by rw [hvdH.out, RW.dgst, if_pos h1]
    obtain ⟨T, hT⟩ : ∃ T, T = UInt8.ofNat p4.toNat := ⟨_, rfl⟩
    rw [← hT] at hcv hS hd
    obtain ⟨D, hD⟩ : ∃ D : ByteArray, D = ⟨(RW.sha RW.k0F [T]).toArray⟩ := ⟨_, rfl⟩
    have hS' : Calls Tryd.prog 53 #[.string ⟨#[T]⟩] (W3.alloc (.cells #[.int .u8 p4] 5)) fun e w' => e = .returned (.string D) ∧ Below (W3.alloc (.cells #[.int .u8 p4] 5)).heap.size (W3.alloc (.cells #[.int .u8 p4] 5)) w' := by rw [hD]; exact hS
    rw [← hD] at hd
    have hBa : Below B w (W3.alloc (.cells #[.int .u8 p4] 5)) := hBlH.out.alloc (by have := (Array.getElem?_eq_some_iff.1 hr2H.out).1; omega) _
    have hsz : B + 3 ≤ (W3.alloc (.cells #[.int .u8 p4] 5)).heap.size := by
      have := (Array.getElem?_eq_some_iff.1 hr3H.out).1
      simp; omega
    have hra2 := (Below.heap_alloc W3 (.cells #[.int .u8 p4] 5) (B + 1) (Array.getElem?_eq_some_iff.1 hr2H.out).1).trans hr2H.out
    have hra3 := (Below.heap_alloc W3 (.cells #[.int .u8 p4] 5) (B + 2) (Array.getElem?_eq_some_iff.1 hr3H.out).1).trans hr3H.out
    have hSH := hide hS'
    have hdH := hide hd
    have hBaH := hide hBa
    have hszH := hide hsz
    have hra2H := hide hra2
    have hra3H := hide hra3
    have hci := msg_info (RW.vn x) D (.slice none 0 0)
    have hco := msg_one (RW.vn x) D (.slice none 0 0) rfl
    clear hS hS' hd hT hD hb4 h0 hBa hsz hra2 hra3 hr2H hr3H hBlH hvdH
    go_upto_region 6 with (go_at_call 53; refine hSH.out.mono ?_; rintro e w5 ⟨rfl, hB5⟩; have hr3 := (hB5.block (B + 2) (Nat.lt_of_lt_of_le (by omega) hszH.out)).trans hra3H.out; have hr2 := hide ((hB5.block (B + 1) (Nat.lt_of_lt_of_le (by omega) hszH.out)).trans hra2H.out); have hBB := hide (hBaH.out.trans (hB5.mono (Nat.le_trans (by omega) hszH.out))); have c6 : w5.cell? ⟨B + 2, 6, none⟩ = some (.string ⟨#[]⟩) := (cell_at hr3 6).trans rfl; have f6 : w5.frozen? ⟨B + 2, 6, none⟩ = false := (by simp [World.frozen?, hr3]); have hr3H := hide hr3; clear hr3 hB5)
    have hr3 : (w5.setCell ⟨B + 2, 6, none⟩ (.string D)).heap[B + 2]? = some (.cells (RW.mcells (RW.vn x) D (.slice none 0 0)) 24 (0, 0)) := by rw [← RW.mcells_dig _ ⟨#[]⟩ D]; exact heap_setCell_same _ _ _ _ _ _ hr3H.out
    have hr2' : (w5.setCell ⟨B + 2, 6, none⟩ (.string D)).heap[B + 1]? = some (.cells RW.noM 24 (0, 0)) := (Below.heap_setCell _ _ _ _ (by show B + 1 ≠ B + 2; omega)).trans hr2.out
    have hBe := hBB.out.setCell (p := ⟨B + 2, 6, none⟩) (by show B ≤ B + 2; omega) (.string D)
    have hBeH := hide hBe
    clear hBe hr3H c6 f6 hcv
    go_wp2_with (first
      | (refine wpList_load_row rfl 24 (.tmp 3) rfl (B + 2) rfl 24 (RW.mcells (RW.vn x) D (.slice none 0 0)) (0, 0) _ hr3 Tryd.underlying24 rfl hci ?_)
      | (refine wpList_store_row rfl 24 (.tmp 2) (.tmp 35) rfl (B + 1) (RW.mcells (RW.vn x) D (.slice none 0 0)) rfl rfl 24 RW.noM hr2' hci rfl hco ?_))
    refine bodyPost_ret (results_cell_row rfl _ _ (B + 1) 24 (RW.mcells (RW.vn x) D (.slice none 0 0)) (0, 0) _ rfl (setRow_heap _ _ _ _ _ _ hr2') Tryd.underlying24 rfl hci) rfl ⟨by rw [hdH.out], ?_⟩
    rw [← hBH.out]
    exact RW.below_setRow hBeH.out (by omega) _
end Go.Proofs.YtcbckcojebanaaaDoor

/-
  Package royaltylaw05: rate, cut, pick: what they return; only new memory is written. And a world that is named anew at a statement's head.
-/
import Derived.Test.YtpihhjpgdbcifaaDoorFact10
namespace Go.Proofs.YtpihhjpgdbcifaaDoor
open Go.RowKit
/-- at a statement's head: the world is forgotten but for what is said of it -/
theorem gen_world {P : Program} {c : Code} {Q : Exit → Act → World → Prop} {a : Act} {W : World} (R : World → Prop) (hR : R W) (h : ∀ W', R W' → Code.wp P c Q a W') : Code.wp P c Q a W := h W hR
theorem setRow_alloc (w : World) (old cs : Array Value) (t : TypeId) : (w.alloc (.cells old t)).setRow w.heap.size cs = w.alloc (.cells cs t) := by
  simp only [World.setRow, World.alloc]
  congr 1
  apply Array.ext_getElem?
  intro i
  rw [Array.getElem?_modify]
  by_cases h : w.heap.size = i
  · subst h; simp
  · rw [if_neg h, Array.getElem?_push, Array.getElem?_push, if_neg (Ne.symm h), if_neg (Ne.symm h)]
/-- a whole row goes into a variable that was just made -/
theorem wpList_store_new {P : Program} {ops : Array Oper} {rest : List Oper} {o : Oper} {a : Act} {w : World} {Q : Exit → Act → World → Prop} (hgd : o.guard = none) (ty : TypeId) (x y : Operand) (ho : o.op = .store ty x y)
    (cells : Array Value) (hx : a.eval x = .pointer (some ⟨w.heap.size, 0, none⟩)) (hy : a.eval y = .agg cells)
    (t : TypeId) (old : Array Value) (hi : (P.info? ty).map (·.size) = some cells.size) (hold : old.size = cells.size) (h1 : cells.all (·.oneCell') = true)
    (h : wpList P ops Q rest (a.put o.dst undef) (w.alloc (.cells cells t))) : wpList P ops Q (o :: rest) a (w.alloc (.cells old t)) := by
  refine wpList_store_row hgd ty x y ho w.heap.size cells hx hy t old (heap_alloc_new w _) hi hold h1 ?_
  rw [setRow_alloc]; exact h
theorem fcells_one (f : Nat → Int) (s : ByteArray) : (RW.fcells f s).all (·.oneCell') = true := by simp [RW.fcells, Value.oneCell']
theorem fact_info (f : Nat → Int) (s : ByteArray) : (Tryd.prog.info? 23).map (·.size) = some (RW.fcells f s).size := by kernel_rfl
namespace RW
/-- the chapter's example -/
def rateF (v a : Int) (i : Nat) : Int := if i = 0 then 7 else if i = 2 then v else if i = 3 then 5 else if i = 13 then a else if i = 15 then 3 else 0
def cutT (s : ByteArray) : ByteArray := s.extract 0 (min s.size 2010)
theorem cutT_size (s : ByteArray) : (cutT s).size ≤ 2010 := by unfold cutT; simp; omega
def pickI (c n : Int) : Int := (if c < 0 then -(c + 1) else c) % n
theorem pickI_bd (c n : Int) (h : 1 ≤ n) : 0 ≤ pickI c n ∧ pickI c n < n := ⟨Int.emod_nonneg _ (by omega), Int.emod_lt_of_pos _ (by omega)⟩
end RW
set_option maxRecDepth 100000 in
set_option maxHeartbeats 1000000 in
theorem rate_any (v a : Int) (w : World) : Calls Tryd.prog 28 #[.int .i64 v, .int .i64 a] w fun e w' => e = .returned (.agg (RW.fcells (RW.rateF v a) ⟨#[]⟩)) ∧ Below w.heap.size w w' := by
  have hi := fact_info (RW.rateF v a) ⟨#[]⟩
  go_enter Tryd.func28, Tryd.ntmps28
  go_wp2_with (refine wpList_store_new rfl 23 (.tmp 4) (.tmp 7) rfl (RW.fcells (RW.rateF v a) ⟨#[]⟩) rfl rfl 23 _ hi rfl (fcells_one _ _) ?_)
  refine bodyPost_ret (results_cell_row rfl _ _ w.heap.size 23 (RW.fcells (RW.rateF v a) ⟨#[]⟩) (0, 0) _ rfl (heap_alloc_new _ _) Tryd.underlying23 rfl hi) rfl ⟨rfl, (Below.refl _ _).alloc (Nat.le_refl _) _⟩
attribute [local go_sem ↓] ldRow_fact
set_option maxRecDepth 100000 in
set_option maxHeartbeats 1000000 in
theorem cut_any (f : Nat → Int) (s : ByteArray) (hs : s.size ≤ 9223372036854775807) (w : World) : Calls Tryd.prog 13 #[.agg (RW.fcells f s)] w fun e w' => e = .returned (.agg (RW.fcells f (RW.cutT s))) ∧ Below w.heap.size w w' := by
  obtain ⟨cs, hcs⟩ : ∃ cs, cs = RW.fcells f s := ⟨_, rfl⟩
  rw [← hcs]
  have hcsH := hide hcs
  clear hcs
  go_enter Tryd.func13, Tryd.ntmps13
  go_upto_region 1 with fail
  rw [← fzero]
  refine gen_world (fun W => Below w.heap.size w W ∧ W.heap[w.heap.size]? = some (.cells cs 23 (0, 0)) ∧ W.heap[w.heap.size + 1]? = some (.cells (RW.fcells RW.zeroF ⟨#[]⟩) 23 (0, 0)))
    ⟨((Below.refl _ _).alloc (Nat.le_refl _) _).alloc (by simp) _, (Below.heap_alloc _ _ _ (by simp)).trans (heap_alloc_new w _), heap_new_at (by simp)⟩ ?_
  rintro W ⟨hB, h1, h2⟩
  have hcs := hcsH.out
  have c17 : W.cell? ⟨w.heap.size, 17, none⟩ = some (.string s) := by rw [cell_of_heap h1, hcs, fcells_text]
  have f17 : W.frozen? ⟨w.heap.size, 17, none⟩ = false := by simp [World.frozen?, h1]
  have hT : ∀ u, (cs.setIfInBounds 17 (.string u)) = RW.fcells f u := fun u => by rw [hcs]; exact RW.fcells_settext f s u
  have hi := fact_info f (RW.cutT s)
  have hL : (ldRow 23 (.pointer (some ⟨w.heap.size, 0, none⟩))).run Tryd.prog (W.setCell ⟨w.heap.size, 17, none⟩ (.string (RW.cutT s))) = .ok (.agg (RW.fcells f (RW.cutT s))) (W.setCell ⟨w.heap.size, 17, none⟩ (.string (RW.cutT s))) :=
    ldRow_eq _ _ _ _ _ _ _ (hT (RW.cutT s) ▸ heap_setCell_same _ _ _ _ _ _ h1) Tryd.underlying23 rfl hi
  have h3 : (W.setCell ⟨w.heap.size, 17, none⟩ (.string (RW.cutT s))).heap[w.heap.size + 1]? = some (.cells (RW.fcells RW.zeroF ⟨#[]⟩) 23 (0, 0)) := (Below.heap_setCell _ _ _ _ (by simp)).trans h2
  have hB3 : Below w.heap.size w (W.setCell ⟨w.heap.size, 17, none⟩ (.string (RW.cutT s))) := hB.setCell (Nat.le_refl _) _
  have h3H := hide h3
  clear hcs hT h1 h2 h3
  by_cases hc : s.size ≤ 2010
  · have hm : min ((s.size : Nat) : Int) 2010 = ((s.size : Nat) : Int) := by omega
    have hx : RW.cutT s = s := by unfold RW.cutT; rw [Nat.min_eq_left hc]; simp
    rw [hx] at hL hB3 h3H hi
    have hxH := hide hx
    clear hx
    go_wp2_with (refine wpList_store_row rfl 23 (.tmp 2) (.tmp 11) rfl (w.heap.size + 1) (RW.fcells f _) rfl rfl 23 _ h3H.out hi rfl (fcells_one _ _) ?_)
    exact bodyPost_ret (results_cell_row rfl _ _ (w.heap.size + 1) 23 (RW.fcells f _) (0, 0) _ rfl (setRow_heap _ _ _ _ _ _ h3H.out) Tryd.underlying23 rfl hi) rfl ⟨by rw [hxH.out], RW.below_setRow hB3 (by omega) _⟩
  · have hm : min ((s.size : Nat) : Int) 2010 = 2010 := by omega
    have hx : RW.cutT s = s.extract 0 2010 := by unfold RW.cutT; rw [Nat.min_eq_right (by omega)]
    rw [hx] at hL hB3 h3H hi
    have hxH := hide hx
    clear hx
    go_wp2_with (refine wpList_store_row rfl 23 (.tmp 2) (.tmp 11) rfl (w.heap.size + 1) (RW.fcells f _) rfl rfl 23 _ h3H.out hi rfl (fcells_one _ _) ?_)
    exact bodyPost_ret (results_cell_row rfl _ _ (w.heap.size + 1) 23 (RW.fcells f _) (0, 0) _ rfl (setRow_heap _ _ _ _ _ _ h3H.out) Tryd.underlying23 rfl hi) rfl ⟨by rw [hxH.out], RW.below_setRow hB3 (by omega) _⟩
set_option maxHeartbeats 1000000 in
theorem pick_any (c n : Int) (hc : -9223372036854775808 ≤ c) (hc2 : c ≤ 9223372036854775807) (h : 1 ≤ n) (hn : n ≤ 9223372036854775807) (w : World) : Calls Tryd.prog 27 #[.int .i64 c, .int .i64 n] w fun e w' => e = .returned (.int .i64 (RW.pickI c n)) ∧ w = w' := by
  by_cases h0 : c < 0
  · have h1 : 0 ≤ -(c + 1) := by omega
    have e : RW.pickI c n = -(c + 1) % n := by unfold RW.pickI; rw [if_pos h0]
    have eH := hide e
    clear e
    go_enter Tryd.func27, Tryd.ntmps27
    go_wp2
    go_ret
    refine ⟨?_, rfl⟩
    rw [eH.out, ← Int.tmod_eq_emod_of_nonneg h1, Int.neg_tmod]
    rfl
  · have e : RW.pickI c n = c % n := by unfold RW.pickI; rw [if_neg h0]
    have eH := hide e
    clear e
    go_enter Tryd.func27, Tryd.ntmps27
    go_wp2
    go_ret
    exact ⟨by rw [eH.out]; rfl, rfl⟩
end Go.Proofs.YtpihhjpgdbcifaaDoor

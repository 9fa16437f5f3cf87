/-
  Package factset: sets in memory; New, Add, Len, Get, Has: what they return, what they write.
-/
import Derived.Test.YtllbphanfahkkaaGreatDoorFs0
import Derived.Test.YtllbphanfahkkaaGreatDoorFsP
import Derived.Test.YtllbphanfahkkaaGreatDoorMQ3
namespace Go.Proofs.YtllbphanfahkkaaGreatDoor
open Go.RowKit RG
theorem setRow_allocF (w : World) (old cs : Array Value) (t : TypeId) : (w.alloc (.cells old t)).setRow w.heap.size cs = w.alloc (.cells cs t) := by
  simp only [World.setRow, World.alloc]
  congr 1
  apply Array.ext_getElem?
  intro i
  rw [Array.getElem?_modify]
  by_cases h : w.heap.size = i
  · subst h; simp
  · rw [if_neg h, Array.getElem?_push, Array.getElem?_push, if_neg (Ne.symm h), if_neg (Ne.symm h)]
/-- a whole row goes into a variable that was just made -/
theorem wpList_store_newF {P : Program} {ops : Array Oper} {rest : List Oper} {o : Oper} {a : Act} {w : World} {Q : Exit → Act → World → Prop} (hgd : o.guard = none) (ty : TypeId) (x y : Operand) (ho : o.op = .store ty x y)
    (cells : Array Value) (hx : a.eval x = .pointer (some ⟨w.heap.size, 0, none⟩)) (hy : a.eval y = .agg cells)
    (t : TypeId) (old : Array Value) (hi : (P.info? ty).map (·.size) = some cells.size) (hold : old.size = cells.size) (h1 : cells.all (·.oneCell') = true)
    (h : wpList P ops Q rest (a.put o.dst undef) (w.alloc (.cells cells t))) : wpList P ops Q (o :: rest) a (w.alloc (.cells old t)) := by
  refine wpList_store_row hgd ty x y ho w.heap.size cells hx hy t old (heap_alloc_new w _) hi hold h1 ?_
  rw [setRow_allocF]; exact h
theorem fcells_oneF (f : Nat → Int) (s : ByteArray) : (RW.fcells f s).all (·.oneCell') = true := by simp [RW.fcells, Value.oneCell']
theorem fact_infoF (f : Nat → Int) (s : ByteArray) : (Tryz.prog.info? 70).map (·.size) = some (RW.fcells f s).size := by kernel_rfl
namespace RW
abbrev Fc := (Nat → Int) × ByteArray
abbrev Ents := List (ByteArray × Value)
/-- a fact as a value -/
def fv (x : Fc) : Value := .agg (fcells x.1 x.2)
def fce (x : Fc) : List Value := (fcells x.1 x.2).toList
abbrev strK : ByteArray → Value := fun x => .string x
def FVs (C : Ents) : Prop := ∀ x ∈ C, ∃ y : Fc, x.2 = fv y
theorem FVs.nil : FVs [] := fun x h => by cases h
theorem FVs.ins {C : Ents} (h : FVs C) (k : ByteArray) (y : Fc) : FVs (insE k (fv y) C) := fun x hx => by
  rcases mem_insE hx with rfl | hx
  · exact ⟨y, rfl⟩
  · exact h x hx
def zeroFv : Fc := (fun _ => 0, ⟨#[]⟩)
theorem FVs.get {C : Ents} (h : FVs C) (k : ByteArray) : ∃ y : Fc, (KM.get k C).getD (fv zeroFv) = fv y := by
  cases e : KM.get k C with
  | none => exact ⟨zeroFv, rfl⟩
  | some v => exact h _ (KM.get_mem e)
end RW
theorem fcl_len (x : RW.Fc) : (RW.fce x).length = 18 := rfl
theorem ChgS.of_belowF {Q : Nat → Prop} {W W' : World} (h : Below W.heap.size W W') : ChgS Q W W' := ⟨h.os, h.tape, h.output, h.size, fun k hk _ => h.block k hk⟩
theorem ChgS.impF {Q Q' : Nat → Prop} {W W' : World} (h : ChgS Q W W') (hq : ∀ k, Q k → Q' k) : ChgS Q' W W' := ⟨h.os, h.tape, h.output, h.size, fun k hk hn => h.block k hk fun e => hn (hq k e)⟩
/-- a set in the blocks sb, mb, which holds C -/
structure SetAt (W : World) (sb mb : Nat) (C : RW.Ents) : Prop where
  row : W.heap[sb]? = some (.cells #[.map (some mb)] 191 (0, 0))
  map : ∃ M, KM.OwnM RW.strK W mb M ∧ RW.Cont M C
  fvs : RW.FVs C
section
variable {W W' : World} {sb mb : Nat} {C : RW.Ents}
theorem SetAt.lt (h : SetAt W sb mb C) : sb < W.heap.size ∧ mb < W.heap.size := by
  obtain ⟨M, hM, _⟩ := h.map
  exact ⟨(Array.getElem?_eq_some_iff.1 h.row).1, hM.lt⟩
theorem SetAt.keep (h : SetAt W sb mb C) (h1 : W'.heap[sb]? = W.heap[sb]?) (h2 : W'.heap[mb]? = W.heap[mb]?) : SetAt W' sb mb C := by
  obtain ⟨M, hM, hC⟩ := h.map
  exact ⟨h1.trans h.row, ⟨M, hM.keep h2, hC⟩, h.fvs⟩
theorem SetAt.next (h : SetAt W sb mb C) (hB : Below W.heap.size W W') : SetAt W' sb mb C := h.keep (hB.block _ h.lt.1) (hB.block _ h.lt.2)
theorem SetAt.asc (h : SetAt W sb mb C) : RW.AscE C := by obtain ⟨_, _, hC⟩ := h.map; exact hC.1
theorem SetAt.ne (h : SetAt W sb mb C) : sb ≠ mb := by
  obtain ⟨M, ⟨es, clock, hM, _⟩, _⟩ := h.map
  rintro rfl
  rw [h.row] at hM
  cases hM
theorem SetAt.nem (h : SetAt W sb mb C) {b : Nat} {c : Array Value} {t : TypeId} {fr : Nat × Nat} (hb : W.heap[b]? = some (.cells c t fr)) : b ≠ mb := by
  obtain ⟨M, ⟨es, clock, hM, _⟩, _⟩ := h.map
  rintro rfl
  rw [hb] at hM
  cases hM
theorem SetAt.cell (h : SetAt W sb mb C) : W.cell? ⟨sb, 0, none⟩ = some (.map (some mb)) := cellAt h.row 0
theorem strK_key : KM.Key Tryz.prog 9 RW.strK := KM.str_key Tryz.underlying9
theorem zero_fact (W : World) : (zeroValue 70).run Tryz.prog W = .ok (RW.fv RW.zeroFv) W := by
  unfold RW.fv RW.zeroFv RW.fcells
  go_simp
theorem SetAt.look (h : SetAt W sb mb C) (k : ByteArray) : (Instr.lookup 189 (.map (some mb)) (.string k) true).run Tryz.prog W = .ok (.tuple #[(KM.get k C).getD (RW.fv RW.zeroFv), .bool (KM.get k C).isSome]) W := by
  obtain ⟨M, hM, hC⟩ := h.map
  have := hM.lookup_ok strK_key Tryz.underlying189 (zero_fact W) k
  rw [hC.2.2] at this
  exact this
theorem SetAt.look1 (h : SetAt W sb mb C) (k : ByteArray) : (Instr.lookup 189 (.map (some mb)) (.string k) false).run Tryz.prog W = .ok ((KM.get k C).getD (RW.fv RW.zeroFv)) W := by
  obtain ⟨M, hM, hC⟩ := h.map
  have := hM.lookup strK_key Tryz.underlying189 (zero_fact W) k
  rw [hC.2.2] at this
  exact this
theorem SetAt.len (h : SetAt W sb mb C) (t : TypeId) : (Builtin.len_ #[189] t #[.map (some mb)]).run Tryz.prog W = .ok (.int .i64 C.length) W := by
  obtain ⟨M, hM, hC⟩ := h.map
  have := hM.made_len t Tryz.underlying189
  rw [hC.len] at this
  exact this
/-- a new entry -/
theorem SetAt.update (h : SetAt W sb mb C) (k : ByteArray) (y : RW.Fc) (hk : KM.get k C = none) :
    ∃ w', (Instr.mapUpdate 189 (.map (some mb)) (.string k) (RW.fv y)).run Tryz.prog W = .ok () w' ∧ SetAt w' sb mb (RW.insE k (RW.fv y) C) ∧ ChgS (fun j => j = mb) W w' ∧ w'.heap.size = W.heap.size := by
  obtain ⟨M, hM, hC⟩ := h.map
  obtain ⟨w', hr, ho, g1, g2, g3, g4, g5⟩ := hM.update strK_key Tryz.underlying189 k (RW.fv y)
  exact ⟨w', hr, ⟨(g5 _ h.ne).trans h.row, ⟨_, ho, hC.put _ hk⟩, h.fvs.ins k y⟩, ⟨g1, g2, g3, Nat.le_of_eq g4.symm, fun j _ hj => g5 j hj⟩, g4⟩
end
set_option maxRecDepth 10000 in
theorem snew_any (w : World) : Calls Tryz.prog 83 #[] w fun e w' => ∃ sb mb, e = .returned (.pointer (some ⟨sb, 0, none⟩)) ∧ SetAt w' sb mb [] ∧ Below w.heap.size w w' ∧ w.heap.size ≤ sb ∧ w.heap.size ≤ mb := by
  have hmk : ∀ W, (Instr.makeMap 189 none).run Tryz.prog W = .ok (.map (some W.heap.size)) (W.alloc (.map #[] 0)) := fun _ => rfl
  go_enter Tryz.func83, Tryz.ntmps83
  go_wp2
  go_ret
  refine ⟨w.heap.size + 1, w.heap.size, rfl, ⟨?_, ⟨[], ?_, RW.Cont.nil⟩, RW.FVs.nil⟩, ?_, by omega, Nat.le_refl _⟩
  · exact newAt (by simp)
  · exact (KM.OwnM.made w).keep (Below.heap_alloc _ _ _ (by simp))
  · exact alloc_bel (alloc_bel (Below.refl _ _) (Nat.le_refl _) _) (by simp) _
set_option maxRecDepth 10000 in
theorem slen_any (sb mb : Nat) (C : RW.Ents) (w : World) (h : SetAt w sb mb C) : Calls Tryz.prog 86 #[.pointer (some ⟨sb, 0, none⟩)] w fun e w' => e = .returned (.int .i64 C.length) ∧ w' = w := by
  have c0 := h.cell
  have hl := h.len 3
  go_enter Tryz.func86, Tryz.ntmps86
  go_wp2
  go_ret
  exact ⟨rfl, rfl⟩
theorem slen_nil (w : World) : Calls Tryz.prog 86 #[.pointer none] w fun e w' => e = .returned (.int .i64 0) ∧ w' = w := by
  go_enter Tryz.func86, Tryz.ntmps86
  go_wp2
  go_ret
  exact ⟨rfl, rfl⟩
end Go.Proofs.YtllbphanfahkkaaGreatDoor

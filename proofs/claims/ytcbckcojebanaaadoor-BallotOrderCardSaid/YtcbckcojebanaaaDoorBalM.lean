/-
  Whole messages loaded and stored, under names that a walk does not open: no condition beyond each theorem's own premises.
-/
import Derived.Test.YtcbckcojebanaaaDoorMC
namespace Go.Proofs.YtcbckcojebanaaaDoor
open Go.RowKit
theorem heap_new_at {w : World} {o : Obj} {g : Nat} (h : g = w.heap.size) : (w.alloc o).heap[g]? = some o := h ▸ heap_alloc_new w o
theorem setRow_alloc (w : World) (old cs : Array Value) (t : TypeId) : (w.alloc (.cells old t)).setRow w.heap.size cs = w.alloc (.cells cs t) := by
  simp only [World.setRow, World.alloc]
  congr 1
  apply Array.ext_getElem?
  intro i
  rw [Array.getElem?_modify]
  by_cases h : w.heap.size = i
  · subst h; simp
  · rw [if_neg h, Array.getElem?_push, Array.getElem?_push, if_neg (Ne.symm h), if_neg (Ne.symm h)]
/-- a whole row goes into a variable that was just made -/
theorem wpList_store_new {P : Program} {ops : Array Oper} {rest : List Oper} {o : Oper} {a : Act} {w : World} {Q : Exit → Act → World → Prop} (hgd : o.guard = none) (ty : TypeId) (x y : Operand) (ho : o.op = .store ty x y)
    (cells : Array Value) (hx : a.eval x = .pointer (some ⟨w.heap.size, 0, none⟩)) (hy : a.eval y = .agg cells)
    (t : TypeId) (old : Array Value) (hi : (P.info? ty).map (·.size) = some cells.size) (hold : old.size = cells.size) (h1 : cells.all (·.oneCell') = true)
    (h : wpList P ops Q rest (a.put o.dst undef) (w.alloc (.cells cells t))) : wpList P ops Q (o :: rest) a (w.alloc (.cells old t)) := by
  refine wpList_store_row hgd ty x y ho w.heap.size cells hx hy t old (heap_alloc_new w _) hi hold h1 ?_
  rw [setRow_alloc]; exact h
def ldMsg (T : TypeId) (x : Value) : Sem Value := Instr.loadAt T x
def stMsg (T : TypeId) (x y : Value) : Sem Unit := Instr.storeAt T x y
theorem ldMsg_msg (x : Value) : Instr.loadAt 24 x = ldMsg 24 x := rfl
theorem stMsg_msg (x y : Value) : Instr.storeAt 24 x y = stMsg 24 x y := rfl
theorem ldMsg_eq {P : Program} (w : World) (g : Nat) (t ty : TypeId) (cs : Array Value) (fr : Nat × Nat) (d : TypeDesc) (hg : w.heap[g]? = some (.cells cs t fr))
    (hu : P.underlying ty = some d) (hd : (match d with | .struct _ | .array _ _ => true | _ => false) = true) (hi : (P.info? ty).map (·.size) = some cs.size) :
    (ldMsg ty (.pointer (some ⟨g, 0, none⟩))).run P w = .ok (.agg cs) w := by
  simp only [ldMsg, Instr.loadAt, Instr.sureAddr, Sem.run_bind, Sem.run_pure, Result.andThen_ok, run_loadVar_row w g t ty cs fr d hg hu hd hi]
theorem stMsg_eq (w : World) (g : Nat) (cells : Array Value) (t ty : TypeId) (old : Array Value) (hg : w.heap[g]? = some (.cells old t (0, 0))) (hi : (Tryd.prog.info? ty).map (·.size) = some cells.size)
    (hold : old.size = cells.size) (h1 : cells.all (·.oneCell') = true) : (stMsg ty (.pointer (some ⟨g, 0, none⟩)) (.agg cells)).run Tryd.prog w = .ok () (w.setRow g cells) := by
  simp only [stMsg, Instr.storeAt, Instr.sureAddr, Sem.run_bind, Sem.run_pure, Result.andThen_ok, run_storeVar_row w g t ty old cells hg hi hold h1]
theorem msg_info (n : Nat → Int) (d : ByteArray) (v : Value) : (Tryd.prog.info? 24).map (·.size) = some (RW.mcells n d v).size := by kernel_rfl
theorem msg_one (n : Nat → Int) (d : ByteArray) (v : Value) (hv : v.oneCell' = true) : (RW.mcells n d v).all (·.oneCell') = true := by
  simp [RW.mcells, hv]
  exact ⟨rfl, rfl, rfl, rfl, rfl, rfl, rfl⟩
theorem msg_ld {W : World} {b : Nat} {n : Nat → Int} {d : ByteArray} {v : Value} (h : W.heap[b]? = some (.cells (RW.mcells n d v) 24 (0, 0))) : (ldMsg 24 (.pointer (some ⟨b, 0, none⟩))).run Tryd.prog W = .ok (.agg (RW.mcells n d v)) W :=
  ldMsg_eq _ _ _ _ _ _ _ h Tryd.underlying24 rfl (msg_info n d v)
theorem msg_st {W : World} {b : Nat} {n n2 : Nat → Int} {d d2 : ByteArray} {v v2 : Value} (h : W.heap[b]? = some (.cells (RW.mcells n d v) 24 (0, 0))) (hv : v2.oneCell' = true) :
    (stMsg 24 (.pointer (some ⟨b, 0, none⟩)) (.agg (RW.mcells n2 d2 v2))).run Tryd.prog W = .ok () (W.setRow b (RW.mcells n2 d2 v2)) :=
  stMsg_eq _ _ _ _ _ _ h (msg_info n2 d2 v2) rfl (msg_one _ _ _ hv)
theorem StrsV.one {W : World} {v : Value} {l : List ByteArray} (h : StrsV W v l) : v.oneCell' = true := by
  obtain ⟨a, cap, rfl, _⟩ := h
  rfl
end Go.Proofs.YtcbckcojebanaaaDoor

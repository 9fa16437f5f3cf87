/-
  Single operations of a region that draws its order: what each yields, by its run equation; calls, by their contracts.
-/
import Derived.Test.YtllbphanfahkkaaGreatDoorMS
namespace Go.Proofs.YtllbphanfahkkaaGreatDoor
open Go.RowKit RG
section
variable {ev : Operand → Value} {o : Oper} {x y z u s : Operand} {w : World}
theorem op_mv {v : Value} (ho : o.op = .move x) (hx : ev x = v) : (execOp ev o).run Tryz.prog w = .ok (.value v) w := by
  unfold execOp
  rw [ho]
  simp only [hx]
  go_simp
theorem op_asg {v : Value} (ho : o.op = .assign x) (hx : ev x = v) : (execOp ev o).run Tryz.prog w = .ok (.value v) w := by
  unfold execOp
  rw [ho]
  simp only [hx]
  go_simp
theorem op_nc {p : Addr} (ho : o.op = .nilCheck x) (hx : ev x = .pointer (some p)) : (execOp ev o).run Tryz.prog w = .ok (.value (.pointer (some p))) w := by
  unfold execOp
  rw [ho]
  simp only [hx]
  go_simp
theorem op_ld {T : TypeId} {p v : Value} (ho : o.op = .load T x) (hx : ev x = p) (hl : (ldRow T p).run Tryz.prog w = .ok v w) : (execOp ev o).run Tryz.prog w = .ok (.value v) w := by
  have hl' : (Instr.loadAt T p).run Tryz.prog w = .ok v w := hl
  unfold execOp
  rw [ho]
  simp only [hx, Sem.run_bind, Sem.run_pure, hl', Result.andThen_ok]
theorem op_fa {S : TypeId} {i : Nat} {p v : Value} (ho : o.op = .fieldAddr S x i) (hx : ev x = p) (hl : (Instr.fieldAt S p i).run Tryz.prog w = .ok v w) : (execOp ev o).run Tryz.prog w = .ok (.value v) w := by
  unfold execOp
  rw [ho]
  simp only [hx, Sem.run_bind, Sem.run_pure, hl, Result.andThen_ok]
theorem op_ix {T : TypeId} {p q v : Value} (ho : o.op = .indexAddr T x y) (hx : ev x = p) (hy : ev y = q) (hl : (Instr.indexAt T p q).run Tryz.prog w = .ok v w) : (execOp ev o).run Tryz.prog w = .ok (.value v) w := by
  unfold execOp
  rw [ho]
  simp only [hx, hy, Sem.run_bind, Sem.run_pure, hl, Result.andThen_ok]
theorem op_st {T : TypeId} {p v : Value} {w' : World} (ho : o.op = .store T x y) (hx : ev x = p) (hy : ev y = v) (hl : (stRow T p v).run Tryz.prog w = .ok () w') : (execOp ev o).run Tryz.prog w = .ok .skip w' := by
  have hl' : (Instr.storeAt T p v).run Tryz.prog w = .ok () w' := hl
  unfold execOp
  rw [ho]
  simp only [hx, hy, Sem.run_bind, Sem.run_pure, hl', Result.andThen_ok]
theorem op_al {T : TypeId} {v : Value} {w' : World} (ho : o.op = .alloc T) (hl : (Instr.alloc T true (.tuple #[])).run Tryz.prog w = .ok v w') : (execOp ev o).run Tryz.prog w = .ok (.value v) w' := by
  unfold execOp
  rw [ho]
  simp only [Sem.run_bind, Sem.run_pure, hl, Result.andThen_ok]
theorem op_pk {p : Bool} {u v r : Value} (ho : o.op = .pick x y z) (hx : ev x = .bool p) (hy : ev y = u) (hz : ev z = v) (hq : (if p = true then u else v) = r) : (execOp ev o).run Tryz.prog w = .ok (.value r) w := by
  unfold execOp
  rw [ho]
  simp only [hx, hy, hz]
  rw [← hq]
  go_simp
theorem op_app {t : TypeId} {v s v' : Value} {w' : World} (ho : o.op = .call { callee := .builtin .append, args := #[x, y], argTypes := #[t, t] }) (hx : ev x = v) (hy : ev y = s) (hr : (Builtin.append_ #[t, t] o.type #[v, s]).run Tryz.prog w = .ok v' w') :
    (execOp ev o).run Tryz.prog w = .ok (.value v') w' := by
  unfold execOp
  simp only [ho, resolve, invoke, builtin, Sem.run_bind, Sem.run_pure, Result.andThen_ok, List.map_toArray, List.map_cons, List.map_nil, hx, hy, hr]
theorem xup_val {D : Value → World → Prop} {r : Result Next} {v : Value} {w' : World} (h : r = .ok (.value v) w') (hD : D v w') : XUp Tryz.prog D r := by
  rw [h]
  exact hD
theorem xup_skip {D : Value → World → Prop} {r : Result Next} {w' : World} (h : r = .ok .skip w') (hD : D undef w') : XUp Tryz.prog D r := by
  rw [h]
  exact hD
theorem op_x1 {D : Value → World → Prop} {k : Nat} {ts : Array TypeId} {n : Value} (ho : o.op = .call ⟨.value (.func k), #[x], ts⟩) (hf : ev (.func k) = .func (.func k) #[] #[]) (hx : ev x = n) (hk : ∀ args w, (callFunc k args).run Tryz.prog w = .ok (.enter k args) w)
    (h : Calls Tryz.prog k #[n] w fun e w'' => ∃ u, e = .returned u ∧ D u w'') : XUp Tryz.prog D ((execOp ev o).run Tryz.prog w) := by
  have h1 : (execOp ev o).run Tryz.prog w = .ok (.enter k #[n]) w := by
    unfold execOp
    rw [ho]
    go_simp
  rw [h1]
  exact h
theorem op_x2 {D : Value → World → Prop} {k : Nat} {ts : Array TypeId} {n m : Value} (ho : o.op = .call ⟨.value (.func k), #[x, y], ts⟩) (hf : ev (.func k) = .func (.func k) #[] #[]) (hx : ev x = n) (hy : ev y = m) (hk : ∀ args w, (callFunc k args).run Tryz.prog w = .ok (.enter k args) w)
    (h : Calls Tryz.prog k #[n, m] w fun e w'' => ∃ u, e = .returned u ∧ D u w'') : XUp Tryz.prog D ((execOp ev o).run Tryz.prog w) := by
  have h1 : (execOp ev o).run Tryz.prog w = .ok (.enter k #[n, m]) w := by
    unfold execOp
    rw [ho]
    go_simp
  rw [h1]
  exact h
theorem op_x3 {D : Value → World → Prop} {k : Nat} {ts : Array TypeId} {a b c : Value} (ho : o.op = .call ⟨.value (.func k), #[x, y, z], ts⟩) (hf : ev (.func k) = .func (.func k) #[] #[]) (hx : ev x = a) (hy : ev y = b) (hz : ev z = c) (hk : ∀ args w, (callFunc k args).run Tryz.prog w = .ok (.enter k args) w)
    (h : Calls Tryz.prog k #[a, b, c] w fun e w'' => ∃ u, e = .returned u ∧ D u w'') : XUp Tryz.prog D ((execOp ev o).run Tryz.prog w) := by
  have h1 : (execOp ev o).run Tryz.prog w = .ok (.enter k #[a, b, c]) w := by
    unfold execOp
    rw [ho]
    go_simp
  rw [h1]
  exact h
end
end Go.Proofs.YtllbphanfahkkaaGreatDoor

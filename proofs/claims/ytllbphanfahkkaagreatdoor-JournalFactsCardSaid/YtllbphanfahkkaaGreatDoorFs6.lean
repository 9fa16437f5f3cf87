/-
  Package factset: Facts: what it returns; only new memory is written.
-/
import Derived.Great.BuildSlice
import Derived.Test.YtllbphanfahkkaaGreatDoorFs5
namespace Go.Proofs.YtllbphanfahkkaaGreatDoor
open Go.RowKit Go.Shelf Go.Sort RG
attribute [local go_sem] Oper.semAt_some
theorem info_factF : (Tryz.prog.info? 70).map (fun i => (i.zero, i.size, i.bytes)) = some (some (.agg (RW.fcells (fun _ => 0) ⟨#[]⟩)), 18, 152) := by kernel_rfl
theorem fce_oneF (x : RW.Fc) : ∀ u ∈ RW.fce x, u.oneCell' = true := by
  have := fcells_oneF x.1 x.2
  rw [Array.all_eq_true'] at this
  intro u hu
  exact this u (by unfold RW.fce at hu; simpa using hu)
/-- a row of facts that the call made; a value that is a list of facts -/
abbrev OwnF (W : World) (B : Nat) (v : Value) (l : List RW.Fc) : Prop := W.ownsRow B 70 18 v l.length (rowCells RW.fce l)
abbrev FactsV (W : World) (v : Value) (l : List RW.Fc) : Prop := RowV 18 RW.fce W v l
theorem OwnF.facts {W : World} {B : Nat} {v : Value} {l : List RW.Fc} (h : OwnF W B v l) : FactsV W v l := rowV_own fcl_len (by decide) h
theorem app_factsF {W : World} {B : Nat} {v y : Value} {l m : List RW.Fc} (hown : OwnF W B v l) (hB : B ≤ W.heap.size) (hy : FactsV W y m) (hlen : l.length + m.length ≤ 1000000) (ty : TypeId) :
    ∃ v' W', (Builtin.append_ #[68, 68] ty #[v, y]).run Tryz.prog W = .ok v' W' ∧ OwnF W' B v' (l ++ m) ∧ Below B W W' ∧ W.grownBy W' v.ownBlock :=
  run_app_rows (P := Tryz.prog) ty Tryz.underlying68 info_factF (by rfl) (by decide) fcl_len fce_oneF hown hB hy (by unfold maxLen; omega) (by omega)
theorem stRow_fact (x y : Value) : Instr.storeAt 70 x y = stRow 70 x y := rfl
theorem stRow_eqF (w : World) (g : Nat) (cells : Array Value) (t ty : TypeId) (old : Array Value) (hg : w.heap[g]? = some (.cells old t (0, 0))) (hi : (Tryz.prog.info? ty).map (·.size) = some cells.size)
    (hold : old.size = cells.size) (h1 : cells.all (·.oneCell') = true) : (stRow ty (.pointer (some ⟨g, 0, none⟩)) (.agg cells)).run Tryz.prog w = .ok () (w.setRow g cells) := by
  simp only [stRow, Instr.storeAt, Instr.sureAddr, Sem.run_bind, Sem.run_pure, Result.andThen_ok, run_storeVar_row w g t ty old cells hg hi hold h1]
theorem stRow_newF (W : World) (y : RW.Fc) : (stRow 70 (.pointer (some ⟨W.heap.size, 0, none⟩)) (.agg (RW.fcells y.1 y.2))).run Tryz.prog (W.alloc (.cells (RW.fcells (fun _ => 0) ⟨#[]⟩) 70)) = .ok () (W.alloc (.cells (RW.fcells y.1 y.2) 70)) := by
  have h := stRow_eqF (W.alloc (.cells (RW.fcells (fun _ => 0) ⟨#[]⟩) 70)) W.heap.size (RW.fcells y.1 y.2) 70 70 _ (alloc_at1 _ _) (fact_infoF y.1 y.2) rfl (fcells_oneF y.1 y.2)
  rw [setRow_allocF] at h
  exact h
theorem take_snocF {α : Type} {l : List α} {j : Nat} {x : α} (h : l[j]? = some x) : l.take (j + 1) = l.take j ++ [x] := by
  obtain ⟨h1, h2⟩ := List.getElem?_eq_some_iff.1 h
  rw [List.take_succ_eq_append_getElem h1, h2]
/-- one fact after another -/
theorem app_oneF {W : World} {B : Nat} {v : Value} {l : List RW.Fc} (y : RW.Fc) (hown : OwnF W B v l) (hB : B ≤ W.heap.size) (hlen : l.length ≤ 999999) :
    ∃ v' W', (Builtin.append_ #[68, 68] 68 #[v, .slice (some ⟨W.heap.size, 0, none⟩) 1 1]).run Tryz.prog (W.alloc (.cells (RW.fcells y.1 y.2) 70)) = .ok v' W' ∧ OwnF W' B v' (l ++ [y]) ∧ ChgS (fun j => v.ownBlock = some j) W W' := by
  have hA := alloc_bel (Below.refl W.heap.size W) (Nat.le_refl _) (.cells (RW.fcells y.1 y.2) 70)
  have h1 : OwnF (W.alloc (.cells (RW.fcells y.1 y.2) 70)) B v l := own_keep hown fun g hg => hA.block _ (own_blk hown hg).2.1
  have hl := rows_lit W 70 fcl_len [y]
  rw [show (rowCells RW.fce [y]).toArray = RW.fcells y.1 y.2 by unfold rowCells RW.fce; simp] at hl
  obtain ⟨v', W', hr, ho, _, hg⟩ := app_factsF h1 (Nat.le_trans hB hA.size) hl (by simp; omega) 68
  exact ⟨v', W', hr, ho, ⟨hg.os, hg.tape, hg.output, Nat.le_trans hA.size hg.size, fun k hk hn => (hg.block k (Nat.lt_of_lt_of_le hk hA.size) fun e => hn e.symm).trans (hA.block k hk)⟩⟩
set_option maxRecDepth 100000 in
theorem op_bs_f {ev : Operand → Value} {o : Oper} {x : Operand} {w : World} {y : RW.Fc} (ho : o.op = .buildSlice 68 1 #[(0, x)]) (hx : ev x = .agg (RW.fcells y.1 y.2)) : (execOp ev o).run Tryz.prog w = .ok (.value (.slice (some ⟨w.heap.size, 0, none⟩) 1 1)) (w.alloc (.cells (RW.fcells y.1 y.2) 70)) := by
  obtain ⟨i0, hi, hz0, hz1, hz2⟩ := info_parts info_factF
  unfold execOp
  rw [ho]
  simp only [Sem.run_bind]
  rw [run_buildSlice w 68 70 1 _ (RW.fcells y.1 y.2) i0 _ Tryz.underlying68 hi hz0 (by rw [hz1]; decide) (by rw [hz1]; decide) (by
    rw [hz1]
    simp only [List.map_toArray, List.map_cons, List.map_nil, hx]
    kernel_rfl)]
  rfl
theorem wpListIn_bs_f {F : Fence} {nF : Nat} {ops : Array Oper} {rest : List Oper} {o : Oper} {a : Act} {w : World} {Q : Exit → Act → World → Prop} (hgd : o.guard = none) (x : Operand) (ho : o.op = .buildSlice 68 1 #[(0, x)]) (y : RW.Fc) (cs : Array Value) (hcs : cs = RW.fcells y.1 y.2) (hx : a.eval x = .agg cs)
    (k : wpListIn F nF Tryz.prog ops Q rest (a.put o.dst (.slice (some ⟨w.heap.size, 0, none⟩) 1 1)) (w.alloc (.cells cs 70))) : wpListIn F nF Tryz.prog ops Q (o :: rest) a w := by
  subst hcs
  refine wpListIn_plain hgd fun K hK => ?_
  unfold Oper.wpIn
  refine ⟨by simp [Oper.about, ho], ?_⟩
  rw [Oper.semAt_plain F _ _ (by rw [ho]; intro c hc'; cases hc'), op_bs_f ho hx]
  exact hK _ _ k
attribute [local go_sem ↓] ldRow_fact stRow_fact
end Go.Proofs.YtllbphanfahkkaaGreatDoor

/-
  Parts appended to a row of the call's own; package royaltyref12: Resolve, its first loop; only new memory is written.
-/
import Derived.Test.YtnkdpfkmellpcaaSp7
namespace Go.Proofs.Ytnkdpfkmellpcaa
open Go.RowKit
theorem pcl_one (x : RW.Pt) : ∀ u ∈ RW.pcl x, u.oneCell' = true := by
  intro u hu
  simp [RW.pcl] at hu
  rcases hu with rfl | rfl <;> rfl
theorem cells_new (W : World) (t : TypeId) (cs : List Value) : ∀ j u, cs[j]? = some u → (W.alloc (.cells cs.toArray t)).cell? ((⟨W.heap.size, 0, none⟩ : Addr).add j) = some u := by
  intro j u hj
  rw [Addr.add_mid, Nat.zero_add, cellAt (newAt rfl)]
  simpa using hj
/-- a part is built and appended to a row of the call's own -/
theorem app_part {B : Nat} {W : World} {v : Value} {l : List RW.Pt} (hown : OwnP W B v l) (hs : B ≤ W.heap.size) (hn : l.length ≤ 1000000) (x : RW.Pt) :
    ∃ v' w3, (Builtin.append_ #[28, 28] 28 #[v, .slice (some ⟨W.heap.size, 0, none⟩) 1 1]).run Try.prog (W.alloc (.cells (RW.pcl x).toArray 39)) = .ok v' w3 ∧
      OwnP w3 B v' (l ++ [x]) ∧ Below B W w3 := by
  obtain ⟨i0, hi, hz0, hz1, hz2⟩ := info_parts info_part
  obtain ⟨v', w3, hr, h2, h3, _⟩ := run_append_own (P := Try.prog) (W.alloc (.cells (RW.pcl x).toArray 39)) B 28 28 39 i0 (.agg #[.int .i64 0, .int .i64 0]) 2 16 Try.underlying28 hi hz0 hz1 hz2 rfl (by decide) v l.length (rowCells RW.pcl l) (hown.alloc _)
    ⟨W.heap.size, 0, none⟩ 1 1 (RW.pcl x) rfl (cells_new W _ _) (pcl_one x) (by unfold maxLen; omega) (by omega) (by simp; omega)
  refine ⟨v', w3, hr, ?_, ((Below.refl B W).alloc hs _).grown h3 (by simp; omega) (fun k hk => (hown.lt k hk).1)⟩
  rw [OwnP, rowCells_append, List.length_append]
  simpa [rowCells] using h2
/-- the operation, in a walk -/
theorem wpList_app_part {ops : Array Oper} {rest : List Oper} {o : Oper} {a : Act} {W : World} {Q : Exit → Act → World → Prop} {B : Nat} {v : Value} {l : List RW.Pt} (hgd : o.guard = none) (s x : Operand)
    (ho : o.op = .call { callee := .builtin .append, args := #[s, x], argTypes := #[28, 28] })
    (hs : a.eval s = v) (hown : OwnP W B v l) (y : RW.Pt) (hx : a.eval x = .slice (some ⟨W.heap.size, 0, none⟩) 1 1) (hB : B ≤ W.heap.size) (hn : l.length ≤ 1000000)
    (h : ∀ v' w', OwnP w' B v' (l ++ [y]) → Below B W w' → wpList Try.prog ops Q rest (a.put o.dst v') w') : wpList Try.prog ops Q (o :: rest) a (W.alloc (.cells (RW.pcl y).toArray 39)) := by
  obtain ⟨i0, hi, hz0, hz1, hz2⟩ := info_parts info_part
  refine wpList_append_own _ hgd s x 28 ho B 39 i0 (.agg #[.int .i64 0, .int .i64 0]) 2 16 Try.underlying28 hi hz0 hz1 hz2 rfl (by decide) v l.length (rowCells RW.pcl l) hs (hown.alloc _)
    ⟨W.heap.size, 0, none⟩ 1 1 (RW.pcl y) hx rfl (cells_new W _ _) (pcl_one y) (by unfold maxLen; omega) (by omega) (by simp; omega) ?_
  intro v' w3 h2 h3 _
  refine h v' w3 ?_ (((Below.refl B W).alloc hB _).grown h3 (by simp; omega) (fun k hk => (hown.lt k hk).1))
  rw [OwnP, rowCells_append, List.length_append]
  simpa [rowCells] using h2
end Go.Proofs.Ytnkdpfkmellpcaa

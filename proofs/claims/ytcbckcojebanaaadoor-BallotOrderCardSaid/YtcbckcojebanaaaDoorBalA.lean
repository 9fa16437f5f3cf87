/-
  Lists of strings that a call makes itself, by appending; what single operations on them do: no condition beyond each theorem's own premises.
-/
import Derived.Test.YtcbckcojebanaaaDoorBalO
import Derived.Test.YtcbckcojebanaaaDoorBalM
import Derived.Test.YtcbckcojebanaaaDoorRs3
namespace Go.Proofs.YtcbckcojebanaaaDoor
open Go.RowKit RG
theorem info_str : (Tryd.prog.info? 9).map (fun i => (i.zero, i.size, i.bytes)) = some (some (.string ⟨#[]⟩), 1, 16) := by kernel_rfl
/-- a string is built and appended to a row of the call's own -/
theorem app_str {B : Nat} {W : World} {v : Value} {n : Nat} {xs : List Value} (hown : W.ownsRow B 9 1 v n xs) (hs : B ≤ W.heap.size) (hn : n ≤ 1000000) (x : ByteArray) :
    ∃ v' w3, (Builtin.append_ #[22, 22] 22 #[v, .slice (some ⟨W.heap.size, 0, none⟩) 1 1]).run Tryd.prog (W.alloc (.cells #[.string x] 9)) = .ok v' w3 ∧
      w3.ownsRow B 9 1 v' (n + 1) (xs ++ [.string x]) ∧ Below B W w3 ∧ (W.alloc (.cells #[.string x] 9)).grownBy w3 v.ownBlock := by
  obtain ⟨i0, hi, hz0, hz1, hz2⟩ := info_parts info_str
  obtain ⟨v', w3, hr, h2, h3, _⟩ := run_append_own (P := Tryd.prog) (W.alloc (.cells #[.string x] 9)) B 22 22 9 i0 (.string ⟨#[]⟩) 1 16 Tryd.underlying22 hi hz0 hz1 hz2 rfl (by decide) v n xs (hown.alloc _)
    ⟨W.heap.size, 0, none⟩ 1 1 [.string x] rfl (cell_one_new W _ _) (by intro u hu; simp at hu; subst hu; rfl) (by unfold maxLen; omega) (by omega) (by simp; exact Nat.le_succ_of_le hs)
  exact ⟨v', w3, hr, h2, (below_app (o := .cells #[.string x] 9) (Below.refl B W) hs hown h3).1, h3⟩
/-- a row of the call's own is a list of strings -/
theorem strs_own {W : World} {B : Nat} {v : Value} {k : Nat} {l : List ByteArray} (h : W.ownsRow B 9 1 v k (l.map .string)) : StrsV W v l := by
  obtain ⟨h1, h2⟩ := h
  rw [List.length_map, Nat.mul_one] at h1
  subst h1
  rcases h2 with ⟨rfl, h0⟩ | ⟨g, cap, cur, rfl, _, hg, hc, _, _, ht⟩
  · have hl := List.length_eq_zero_iff.1 h0
    subst hl
    exact ⟨none, 0, rfl, Nat.le_refl _, .inl rfl⟩
  · refine ⟨some ⟨g, 0, none⟩, cap, rfl, hc, .inr ⟨g, 0, rfl, (Array.getElem?_eq_some_iff.1 hg).1, fun i hi => ?_⟩⟩
    rw [cell_at hg, Nat.zero_add]
    have h3 : (cur.toList.take (l.length * 1))[i]? = some (.string (l.getD i ⟨#[]⟩)) := by
      rw [ht, List.getElem?_map, List.getElem?_eq_getElem hi, List.getD, List.getElem?_eq_getElem hi]
      rfl
    rw [List.getElem?_take] at h3
    split at h3
    · rw [← Array.getElem?_toList]; exact h3
    · cases h3
section
variable {ev : Operand → Value} {o : Oper} {x y : Operand} {w : World}
theorem op_mv {v : Value} (ho : o.op = .move x) (hx : ev x = v) : (execOp ev o).run Tryd.prog w = .ok (.value v) w := by
  unfold execOp
  rw [ho]
  simp only [hx]
  go_simp
theorem op_load_sl {a : Addr} {p : Option Addr} {n c : Nat} (ho : o.op = .load 22 x) (hx : ev x = .pointer (some a)) (hc : w.cell? a = some (.slice p n c)) : (execOp ev o).run Tryd.prog w = .ok (.value (.slice p n c)) w := by
  unfold execOp
  rw [ho]
  go_simp
theorem op_build_s {v : ByteArray} (ho : o.op = .buildSlice 22 1 #[(0, x)]) (hx : ev x = .string v) : (execOp ev o).run Tryd.prog w = .ok (.value (.slice (some ⟨w.heap.size, 0, none⟩) 1 1)) (w.alloc (.cells #[.string v] 9)) := by
  unfold execOp
  rw [ho]
  go_simp
theorem op_app {t : TypeId} {v s v' : Value} {w' : World} (ho : o.op = .call { callee := .builtin .append, args := #[x, y], argTypes := #[t, t] }) (hx : ev x = v) (hy : ev y = s) (hr : (Builtin.append_ #[t, t] o.type #[v, s]).run Tryd.prog w = .ok v' w') :
    (execOp ev o).run Tryd.prog w = .ok (.value v') w' := by
  unfold execOp
  simp only [ho, resolve, invoke, builtin, Sem.run_bind, Sem.run_pure, Result.andThen_ok, List.map_toArray, List.map_cons, List.map_nil, hx, hy, hr]
theorem op_store_sl {b i : Nat} {p : Option Addr} {n c : Nat} {u : Value} (ho : o.op = .store 22 x y) (hx : ev x = .pointer (some ⟨b, i, none⟩)) (hy : ev y = .slice p n c) (hc : w.cell? ⟨b, i, none⟩ = some u) (hf : w.frozen? ⟨b, i, none⟩ = false) :
    (execOp ev o).run Tryd.prog w = .ok .skip (w.setCell ⟨b, i, none⟩ (.slice p n c)) := by
  unfold execOp
  rw [ho]
  go_simp
end
/-- five worlds, one behind the other -/
def st5 (W0 W1 W2 W3 W4 : World) : Nat → World → Prop
  | 0, w => w = W0
  | 1, w => w = W1
  | 2, w => w = W2
  | 3, w => w = W3
  | _, w => w = W4
theorem st5_two {W0 W1 W2 W3 W4 w : World} {j : Nat} (h : st5 W0 W1 W2 W3 W4 j w) (hj : j ≤ 2) : w = W0 ∨ w = W1 ∨ w = W2 := by
  have : j = 0 ∨ j = 1 ∨ j = 2 := by omega
  rcases this with rfl | rfl | rfl
  · exact .inl h
  · exact .inr (.inl h)
  · exact .inr (.inr h)
end Go.Proofs.YtcbckcojebanaaaDoor

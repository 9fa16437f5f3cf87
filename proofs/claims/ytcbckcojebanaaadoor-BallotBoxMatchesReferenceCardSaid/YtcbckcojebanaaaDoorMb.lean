/-
  Rows of messages of the call's own: appended, read, an element set; what single operations do: no condition beyond each theorem's own premises.
-/
import Derived.Test.YtcbckcojebanaaaDoorMS
import Derived.Test.YtcbckcojebanaaaDoorMZ2
import Derived.Test.YtcbckcojebanaaaDoorBoP
namespace Go.Proofs.YtcbckcojebanaaaDoor
open Go.RowKit RG
theorem own_keep {W W' : World} {B : Nat} {e : TypeId} {k n : Nat} {v : Value} {xs : List Value} (h : W.ownsRow B e k v n xs) (hk : ∀ g, v.ownBlock = some g → W'.heap[g]? = W.heap[g]?) : W'.ownsRow B e k v n xs := by
  refine ⟨h.1, h.2.imp id ?_⟩
  rintro ⟨g, cap, cur, rfl, h2, h3, h4⟩
  exact ⟨g, cap, cur, rfl, h2, (hk g rfl).trans h3, h4⟩
theorem own_block {W : World} {B : Nat} {e : TypeId} {k n : Nat} {v : Value} {xs : List Value} (h : W.ownsRow B e k v n xs) {g : Nat} (hg : v.ownBlock = some g) : B ≤ g ∧ g < W.heap.size ∧ ∃ cur, W.heap[g]? = some (.cells cur e (0, 0)) := by
  rcases h.2 with ⟨rfl, _⟩ | ⟨g', cap, cur, rfl, h2, h3, _⟩
  · cases hg
  · cases hg
    exact ⟨h2, (Array.getElem?_eq_some_iff.1 h3).1, cur, h3⟩
theorem alloc_at1 (w : World) (A : Obj) : (w.alloc A).heap[w.heap.size]? = some A := heap_alloc_new w A
theorem alloc_bel {B : Nat} {w W : World} (h : Below B w W) (hB : B ≤ w.heap.size) (A : Obj) : Below B w (W.alloc A) := h.alloc (Nat.le_trans hB h.size) A
theorem below_set {B b i : Nat} {w W : World} (h : Below B w W) (hb : B ≤ b) (v : Value) : Below B w (W.setCell ⟨b, i, none⟩ v) :=
  ⟨h.os, h.tape, h.output, by simpa using h.size, fun k hk => (Below.heap_setCell _ _ _ _ (show k ≠ b by omega)).trans (h.block k hk)⟩
theorem below_sets {B b : Nat} {w : World} (hb : B ≤ b) : ∀ (vs : List Value) (i : Nat) (W : World), Below B w W → Below B w (W.setCells b i vs)
  | [], _, _, h => h
  | v :: vs, i, W, h => below_sets hb vs (i + 1) _ (below_set h hb v)
theorem xup_val {D : Value → World → Prop} {r : Result Next} {v : Value} {w' : World} (h : r = .ok (.value v) w') (hD : D v w') : XUp Tryd.prog D r := by
  rw [h]
  exact hD
theorem xup_skip {D : Value → World → Prop} {r : Result Next} {w' : World} (h : r = .ok .skip w') (hD : D undef w') : XUp Tryd.prog D r := by
  rw [h]
  exact hD
namespace RW
/-- a vote's cells -/
def mve (x : Mv) : List Value := (mcells x.1 x.2 (.slice none 0 0)).toList
theorem mve_len (x : Mv) : (mve x).length = 8 := rfl
theorem mve_one : ∀ (x : Mv), ∀ u ∈ mve x, u.oneCell' = true := by
  intro x u hu
  simp only [mve, mcells, List.mem_cons, List.not_mem_nil, or_false] at hu
  rcases hu with rfl | rfl | rfl | rfl | rfl | rfl | rfl | rfl <;> rfl
theorem mve_arr (x : Mv) : (mve x).toArray = mcells x.1 x.2 (.slice none 0 0) := rfl
end RW
set_option maxRecDepth 10000 in
theorem fold_msg (n : Nat → Int) (d : ByteArray) (v : Value) : Array.foldl (fun (cs : Array Value) (x : Value × Nat) => cs.setIfInBounds x.snd x.fst) #[Value.int .i64 0, .int .i64 0, .int .i64 0, .int .i64 0, .int .i64 0, .int .i64 0, .string ⟨#[]⟩, .slice none 0 0] (RW.mcells n d v).zipIdx 0 (RW.mcells n d v).size = RW.mcells n d v := by
  unfold RW.mcells
  simp
set_option maxRecDepth 10000 in
theorem fold_msg8 (n : Nat → Int) (d : ByteArray) (v : Value) : Array.foldl (fun (cs : Array Value) (x : Value × Nat) => cs.setIfInBounds x.snd x.fst) #[Value.int .i64 0, .int .i64 0, .int .i64 0, .int .i64 0, .int .i64 0, .int .i64 0, .string ⟨#[]⟩, .slice none 0 0] (RW.mcells n d v).zipIdx 0 8 = RW.mcells n d v := by
  unfold RW.mcells
  simp
/-- a row of messages of the call's own -/
abbrev MsgO (W : World) (B : Nat) (v : Value) (L : List RW.Mv) : Prop := W.ownsRow B 24 8 v L.length (rowCells RW.mve L)
theorem MsgO.row {W : World} {B : Nat} {v : Value} {L : List RW.Mv} (h : MsgO W B v L) : RowV 8 RW.mve W v L := rowV_own (B := B) (e := 24) (n := L.length) RW.mve_len (by decide) h
theorem MsgO.form {W : World} {B : Nat} {v : Value} {L : List RW.Mv} (h : MsgO W B v L) : ∃ a c, v = .slice a L.length c := by
  rcases h.2 with ⟨rfl, h0⟩ | ⟨g, cap, cur, rfl, _⟩
  · exact ⟨none, 0, by rw [h0]⟩
  · exact ⟨_, _, rfl⟩
theorem MsgO.nil (W : World) (B : Nat) : MsgO W B (.slice none 0 0) [] := ⟨rfl, .inl ⟨rfl, rfl⟩⟩
theorem MsgO.next {W W' : World} {B : Nat} {v : Value} {L : List RW.Mv} (h : MsgO W B v L) (hB : Below W.heap.size W W') : MsgO W' B v L := own_keep h fun _ hg => hB.block _ (own_block h hg).2.1
theorem msg_einfo : (Tryd.prog.info? 24).map (fun i => (i.zero, i.size, i.bytes)) = some (some (.agg #[.int .i64 0, .int .i64 0, .int .i64 0, .int .i64 0, .int .i64 0, .int .i64 0, .string ⟨#[]⟩, .slice none 0 0]), 8, 88) := by kernel_rfl
/-- a row appended -/
theorem MsgO.appRow {W : World} {B : Nat} {v y : Value} {L m : List RW.Mv} (h : MsgO W B v L) (hy : RowV 8 RW.mve W y m) (hl : L.length ≤ 10000) (hm : m.length ≤ 10000) (hB : B ≤ W.heap.size) :
    ∃ v' W', (Builtin.append_ #[43, 43] 43 #[v, y]).run Tryd.prog W = .ok v' W' ∧ MsgO W' B v' (L ++ m) ∧ Below B W W' ∧ W.grownBy W' v.ownBlock := by
  obtain ⟨v', W', h1, h2, h3, h4⟩ := run_app_rows (P := Tryd.prog) 43 Tryd.underlying43 msg_einfo (by rfl) (by decide) RW.mve_len RW.mve_one h hB hy (by unfold maxLen; omega) (by omega)
  exact ⟨v', W', h1, h2, h3, h4⟩
theorem MsgO.appNew {W : World} {B : Nat} {v : Value} {L : List RW.Mv} (h : MsgO W B v L) (x : RW.Mv) (hl : L.length ≤ 10000) (hB : B ≤ W.heap.size) :
    ∃ v' W', (Builtin.append_ #[43, 43] 43 #[v, .slice (some ⟨W.heap.size, 0, none⟩) 1 1]).run Tryd.prog (W.alloc (.cells (RW.mcells x.1 x.2 (.slice none 0 0)) 24)) = .ok v' W' ∧ MsgO W' B v' (L ++ [x]) ∧ Below B W W' ∧ W.grownBy W' v.ownBlock := by
  have hA := alloc_bel (Below.refl W.heap.size W) (Nat.le_refl _) (.cells (RW.mcells x.1 x.2 (.slice none 0 0)) 24)
  have hlit : RowV 8 RW.mve (W.alloc (.cells (rowCells RW.mve [x]).toArray 24)) (.slice (some ⟨W.heap.size, 0, none⟩) 1 1) [x] := rows_lit (k := 8) (enc := RW.mve) W 24 RW.mve_len [x]
  obtain ⟨v', W', g1, g2, g3, g4⟩ := (h.next hA).appRow (y := .slice (some ⟨W.heap.size, 0, none⟩) 1 1) (m := [x]) hlit hl (by simp) (Nat.le_trans hB hA.size)
  exact ⟨v', W', g1, g2, (hA.mono hB).trans g3, (show W.grownBy (W.alloc _) v.ownBlock from ⟨rfl, rfl, rfl, by simp, fun k hk _ => Below.heap_alloc _ _ _ hk⟩).trans g4⟩
/-- where an element lies -/
theorem MsgO.at {W : World} {B : Nat} {v : Value} {L : List RW.Mv} {i : Nat} {x : RW.Mv} (h : MsgO W B v L) (hx : L[i]? = some x) : ∃ g c, v = .slice (some ⟨g, 0, none⟩) L.length c ∧ B ≤ g ∧ g < W.heap.size ∧ W.rangeAt g (i * 8) (RW.mve x) ∧ W.there g (i * 8) 8 := by
  have hi := (List.getElem?_eq_some_iff.1 hx).1
  have h0 := h
  rcases h.2 with ⟨rfl, h1⟩ | ⟨g, cap, cur, rfl, hB, hg, _⟩
  · rw [h1] at hi; exact absurd hi (Nat.not_lt_zero _)
  · refine ⟨g, cap, rfl, hB, (Array.getElem?_eq_some_iff.1 hg).1, own_range h0 (i * 8) _ (fun j u hj => rowCells_get RW.mve_len L i x hx j u hj), own_there h0 (i * 8) 8 (by have : (i + 1) * 8 ≤ L.length * 8 := Nat.mul_le_mul_right _ hi; omega)⟩
theorem MsgO.set {W : World} {B g c i : Nat} {L : List RW.Mv} (h : MsgO W B (.slice (some ⟨g, 0, none⟩) L.length c) L) (hi : i < L.length) (x : RW.Mv) : MsgO (W.setCells g (i * 8) (RW.mve x)) B (.slice (some ⟨g, 0, none⟩) L.length c) (L.set i x) := by
  have := own_set (k := 8) (enc := RW.mve) (e := 24) RW.mve_len (by decide) h i hi x
  rw [MsgO, List.length_set]
  exact this
section
variable {ev : Operand → Value} {o : Oper} {x y : Operand} {w : World}
theorem op_idx_m {b i n c : Nat} (ho : o.op = .indexAddr 43 x y) (hx : ev x = .slice (some ⟨b, 0, none⟩) n c) (hy : ev y = .int .i64 i) (hi : i < n) : (execOp ev o).run Tryd.prog w = .ok (.value (.pointer (some ⟨b, i * 8, none⟩))) w := by
  unfold execOp
  rw [ho]
  simp only [hx, hy]
  go_simp
theorem op_load_m {b i : Nat} {z : RW.Mv} (ho : o.op = .load 24 x) (hx : ev x = .pointer (some ⟨b, i, none⟩)) (hc : w.rangeAt b i (RW.mve z)) : (execOp ev o).run Tryd.prog w = .ok (.value (.agg (RW.mcells z.1 z.2 (.slice none 0 0)))) w := by
  have h1 := run_loadAt_mid (P := Tryd.prog) w b i 24 (RW.mve z) _ hc Tryd.underlying24 rfl (by kernel_rfl)
  rw [RW.mve_arr] at h1
  unfold execOp
  rw [ho]
  simp only [hx, Sem.run_bind, h1, Result.andThen_ok, Sem.run_pure]
theorem op_store_m {b i : Nat} {z : RW.Mv} (ho : o.op = .store 24 x y) (hx : ev x = .pointer (some ⟨b, i, none⟩)) (hy : ev y = .agg (RW.mcells z.1 z.2 (.slice none 0 0))) (ht : w.there b i 8) : (execOp ev o).run Tryd.prog w = .ok .skip (w.setCells b i (RW.mve z)) := by
  have h1 := run_storeAt_mid (P := Tryd.prog) w b i 24 (RW.mcells z.1 z.2 (.slice none 0 0)) ht (by kernel_rfl) (msg_one _ _ _ rfl)
  unfold execOp
  rw [ho]
  simp only [hx, hy, Sem.run_bind, h1, Result.andThen_ok, Sem.run_pure]
  rfl
theorem op_fa1_m {b i : Nat} (ho : o.op = .fieldAddr 24 x 1) (hx : ev x = .pointer (some ⟨b, i, none⟩)) : (execOp ev o).run Tryd.prog w = .ok (.value (.pointer (some ⟨b, i + 1, none⟩))) w := by
  unfold execOp
  rw [ho]
  simp only [hx]
  go_simp
theorem op_addi {m n r : Int} (ho : o.op = .binOp .add 3 x y 3) (hx : ev x = .int .i64 m) (hy : ev y = .int .i64 n) (h : m + n = r) (hb : -9223372036854775808 ≤ r ∧ r ≤ 9223372036854775807) : (execOp ev o).run Tryd.prog w = .ok (.value (.int .i64 r)) w := by
  have e : IntKind.i64.wrap (m + n) = r := by rw [h]; exact IntWalk.i64_in _ hb
  unfold execOp
  rw [ho]
  clear hb h
  go_simp
end
end Go.Proofs.YtcbckcojebanaaaDoor

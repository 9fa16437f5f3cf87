/-
  Package royaltylaw12: bases of claims in regions that draw their order: no condition beyond each theorem's own premises.
-/
import Derived.Test.YtnkdpfkmellpcaaSp15
import Derived.Test.YtnkdpfkmellpcaaSp14
import Derived.Test.YtnkdpfkmellpcaaStg3
namespace Go.Proofs.Ytnkdpfkmellpcaa
open Go.RowKit RG
section
variable {ev : Operand → Value} {o : Oper} {x y z : Operand} {w : World}
theorem op_mt (ho : o.op = .buildSlice 22 0 #[]) : (execOp ev o).run Try.prog w = .ok (.value (.slice (some ⟨w.heap.size, 0, none⟩) 0 0)) (w.alloc (.cells #[] 43)) := by
  unfold execOp
  rw [ho]
  go_simp
theorem op_fa_b2 {b : Nat} (ho : o.op = .fieldAddr 25 x 2) (hx : ev x = .pointer (some ⟨b, 0, none⟩)) : (execOp ev o).run Try.prog w = .ok (.value (.pointer (some ⟨b, 2, none⟩))) w := by
  unfold execOp
  rw [ho]
  simp only [hx]
  go_simp
theorem op_load_fs {b i : Nat} {p : Option Addr} {n c : Nat} (ho : o.op = .load 22 x) (hx : ev x = .pointer (some ⟨b, i, none⟩)) (hc : w.cell? ⟨b, i, none⟩ = some (.slice p n c)) : (execOp ev o).run Try.prog w = .ok (.value (.slice p n c)) w := by
  unfold execOp
  rw [ho]
  simp only [hx]
  go_simp
theorem op_slice_lo {g n c i : Nat} (ho : o.op = .slice 22 x (some y) none none) (hx : ev x = .slice (some ⟨g, 0, none⟩) n c) (hy : ev y = .int .i64 i) (hi : i ≤ n) : (execOp ev o).run Try.prog w = .ok (.value (.slice (if c = i then some ⟨g, 0, none⟩ else some ⟨g, i * 18, none⟩) (n - i) (c - i))) w := by
  unfold execOp
  rw [ho]
  go_simp
theorem op_slice_hi {g n c i : Nat} (ho : o.op = .slice 22 x none (some y) none) (hx : ev x = .slice (some ⟨g, 0, none⟩) n c) (hy : ev y = .int .i64 i) (hi : i ≤ n) (hn : n ≤ c) : (execOp ev o).run Try.prog w = .ok (.value (.slice (some ⟨g, 0, none⟩) i c)) w := by
  have h1 : i ≤ c := Nat.le_trans hi hn
  have h2 : ¬ c < i := by omega
  unfold execOp
  rw [ho]
  go_simp
theorem op_alloc_b (ho : o.op = .alloc 25) : (execOp ev o).run Try.prog w = .ok (.value (.pointer (some ⟨w.heap.size, 0, none⟩))) (w.alloc (.cells (RW.bcl (.slice none 0 0)) 25)) := by
  unfold execOp
  rw [ho]
  go_simp
  rfl
theorem op_build_b {p : Option Addr} {n c : Nat} (ho : o.op = .build 25 #[(2, x)]) (hx : ev x = .slice p n c) : (execOp ev o).run Try.prog w = .ok (.value (.agg (RW.bcl (.slice p n c)))) w := by
  unfold execOp
  rw [ho]
  go_simp
  rfl
theorem op_store_b {b : Nat} {v u : Value} (ho : o.op = .store 25 x y) (hx : ev x = .pointer (some ⟨b, 0, none⟩)) (hy : ev y = .agg (RW.bcl v)) (hv : v.oneCell' = true) (hr : w.heap[b]? = some (.cells (RW.bcl u) 25 (0, 0))) :
    (execOp ev o).run Try.prog w = .ok .skip (w.setRow b (RW.bcl v)) := by
  have h1 : (Instr.storeAt 25 (.pointer (some ⟨b, 0, none⟩)) (.agg (RW.bcl v))).run Try.prog w = .ok () (w.setRow b (RW.bcl v)) := by
    simp only [Instr.storeAt, Instr.sureAddr, Sem.run_bind, Sem.run_pure, Result.andThen]
    exact run_storeVar_row w b 25 25 (RW.bcl u) (RW.bcl v) hr (base_size v) rfl (base_one v hv)
  unfold execOp
  rw [ho]
  simp only [hx, hy, Sem.run_bind, h1, Result.andThen_ok, Sem.run_pure]
end
theorem slice_parts {W0 : World} {n0 : Nat} {v : Value} {L : List RW.Fc} {k : Nat} (h : OwnF W0 n0 v L) (hk : k ≤ L.length) : ∃ vlo vhi,
    (∀ (ev : Operand → Value) (o : Oper) (x y : Operand) (w : World), o.op = .slice 22 x (some y) none none → ev x = v → ev y = .int .i64 k → (execOp ev o).run Try.prog w = .ok (.value vlo) w) ∧
    (∀ (ev : Operand → Value) (o : Oper) (x y : Operand) (w : World), o.op = .slice 22 x none (some y) none → ev x = v → ev y = .int .i64 k → (execOp ev o).run Try.prog w = .ok (.value vhi) w) ∧
    ∀ W, FactsV W v L → FactsV W vlo (L.drop k) ∧ FactsV W vhi (L.take k) := by
  rcases h.2 with ⟨rfl, h0⟩ | ⟨g, cap, cur, rfl, _, _, hn, _, _⟩
  · obtain rfl : L = [] := List.length_eq_zero_iff.1 h0
    obtain rfl : k = 0 := by simpa using hk
    refine ⟨.slice none 0 0, .slice none 0 0, fun ev o x y w ho hx hy => ?_, fun ev o x y w ho hx hy => ?_, fun W hW => ⟨hW, hW⟩⟩
    · unfold execOp
      rw [ho]
      go_simp
    · unfold execOp
      rw [ho]
      go_simp
  · refine ⟨_, _, fun ev o x y w ho hx hy => op_slice_lo ho hx hy hk, fun ev o x y w ho hx hy => op_slice_hi ho hx hy hk hn, fun W hW => ⟨?_, ?_⟩⟩
    · have h1 := hW.sub k L.length hk (Nat.le_refl _)
      rw [List.take_of_length_le (Nat.le_refl _)] at h1
      by_cases hc : cap = k
      · have h2 : L.length = k := by omega
        rw [if_pos hc, show L.drop k = [] by rw [List.drop_eq_nil_iff]; omega]
        exact ⟨some ⟨g, 0, none⟩, cap - k, by rw [h2]; simp, by simp, .inl rfl⟩
      · rw [if_neg hc]
        simpa using h1
    · have h1 := hW.first k hk
      exact h1
section
variable {ev : Operand → Value} {o : Oper} {x y z : Operand} {w : World}
theorem op_idx_f {b ao i n c : Nat} (ho : o.op = .indexAddr 22 x y) (hx : ev x = .slice (some ⟨b, ao, none⟩) n c) (hy : ev y = .int .i64 i) (hi : i < n) : (execOp ev o).run Try.prog w = .ok (.value (.pointer (some ⟨b, ao + i * 18, none⟩))) w := by
  unfold execOp
  rw [ho]
  simp only [hx, hy]
  go_simp
theorem op_load_f {b i : Nat} {v : Value} (ho : o.op = .load 43 x) (hx : ev x = .pointer (some ⟨b, i, none⟩)) (hv : (ldRow 43 (.pointer (some ⟨b, i, none⟩))).run Try.prog w = .ok v w) : (execOp ev o).run Try.prog w = .ok (.value v) w := by
  have h1 : (Instr.loadAt 43 (.pointer (some ⟨b, i, none⟩))).run Try.prog w = .ok v w := hv
  unfold execOp
  rw [ho]
  simp only [hx, Sem.run_bind, h1, Result.andThen_ok, Sem.run_pure]
theorem fact_ld_mid {W : World} {b i : Nat} {q : RW.Fc} (h : W.rangeAt b i (RW.fce q)) : (ldRow 43 (.pointer (some ⟨b, i, none⟩))).run Try.prog W = .ok (.agg (RW.fce q).toArray) W :=
  ldRow_mid (fun j u hj => h j u (by simpa using hj)) Try.underlying43 rfl (fact_size q)
theorem op_store_fs {b i : Nat} {p : Option Addr} {n c : Nat} {u : Value} (ho : o.op = .store 22 x y) (hx : ev x = .pointer (some ⟨b, i, none⟩)) (hy : ev y = .slice p n c) (hc : w.cell? ⟨b, i, none⟩ = some u) (hf : w.frozen? ⟨b, i, none⟩ = false) :
    (execOp ev o).run Try.prog w = .ok .skip (w.setCell ⟨b, i, none⟩ (.slice p n c)) := by
  unfold execOp
  rw [ho]
  simp only [hx, hy]
  go_simp
end
set_option maxRecDepth 10000 in
theorem fold_fc (f : RW.Fc) : Array.foldl (fun (cs : Array Value) (x : Value × Nat) => cs.setIfInBounds x.snd x.fst) #[.int .i64 0, .int .i64 0, .int .i64 0, .int .i64 0, .int .i64 0, .int .i64 0, .int .i64 0, .int .i64 0, .int .i64 0, .int .i64 0, .int .i64 0, .int .i64 0, .int .i64 0, .int .i64 0, .int .i64 0, .int .i64 0, .int .i64 0, .string ⟨#[]⟩] (RW.fce f).toArray.zipIdx 0 (RW.fce f).toArray.size = (RW.fce f).toArray := by
  unfold RW.fce RW.fcl
  simp
theorem op_bs_f {ev : Operand → Value} {o : Oper} {x : Operand} {w : World} {q : RW.Fc} (ho : o.op = .buildSlice 22 1 #[(0, x)]) (hx : ev x = .agg (RW.fce q).toArray) : (execOp ev o).run Try.prog w = .ok (.value (.slice (some ⟨w.heap.size, 0, none⟩) 1 1)) (w.alloc (.cells (RW.fce q).toArray 43)) := by
  have hf := fold_fc q
  obtain ⟨X, hX⟩ : ∃ X, X = (RW.fce q).toArray := ⟨_, rfl⟩
  have hs : X.size = 18 := by rw [hX]; rfl
  rw [← hX] at hx hf ⊢
  rw [hs] at hf
  clear hX
  unfold execOp
  rw [ho]
  go_simp
section
variable {ev : Operand → Value} {o : Oper} {x y : Operand} {w : World}
theorem op_leqB {m n : Int} (ho : o.op = .binOp .leq 3 x y 3) (hx : ev x = .int .i64 m) (hy : ev y = .int .i64 n) : (execOp ev o).run Try.prog w = .ok (.value (.bool (decide (m ≤ n)))) w := by
  unfold execOp
  rw [ho]
  simp only [hx, hy]
  go_simp
theorem op_pred {k : Nat} (hk : (k : Int) + 1 ≤ 9223372036854775807) (ho : o.op = .binOp .sub 3 x y 3) (hx : ev x = .int .i64 ((k + 1 : Nat) : Int)) (hy : ev y = .int .i64 1) : (execOp ev o).run Try.prog w = .ok (.value (.int .i64 k)) w := by
  obtain ⟨n, hn⟩ : ∃ n : Int, n = ((k + 1 : Nat) : Int) := ⟨_, rfl⟩
  have h1 : (k : Int) = n - 1 := by omega
  rw [← hn] at hx
  have h2 : -9223372036854775808 ≤ n - 1 := by omega
  have h3 : n - 1 ≤ 9223372036854775807 := by omega
  rw [h1]
  clear hn h1 hk
  unfold execOp
  rw [ho]
  simp only [hx, hy]
  go_simp
  rw [IntKind.wrap_i64]
  omega
end
/-- what is known in the region: a row of claims under way, and perhaps the base that will hold it -/
def KK (n0 : Nat) (v : Value) (l : List RW.Fc) (bo : Option Nat) (W : World) : Prop :=
  OwnF W n0 v l ∧ ∀ b, bo = some b → n0 ≤ b ∧ W.heap[b]? = some (.cells (RW.bcl (.slice none 0 0)) 25 (0, 0))
theorem kk_al {n0 : Nat} {v : Value} {l : List RW.Fc} {W : World} (h : KK n0 v l none W) (hn : n0 ≤ W.heap.size) : KK n0 v l (some W.heap.size) (W.alloc (.cells (RW.bcl (.slice none 0 0)) 25)) :=
  ⟨own_next h.1 ((Below.refl _ _).alloc (Nat.le_refl _) _), fun b hb => by cases hb; exact ⟨hn, newAt rfl⟩⟩
theorem kk_app {n0 : Nat} {v y : Value} {l m : List RW.Fc} {bo : Option Nat} {W : World} (h : KK n0 v l bo W) (hn : n0 ≤ W.heap.size) (hy : FactsV W y m) (hlen : l.length + m.length ≤ 1000000) (ty : TypeId) :
    ∃ p n c W', (Builtin.append_ #[22, 22] ty #[v, y]).run Try.prog W = .ok (.slice p n c) W' ∧ KK n0 (.slice p n c) (l ++ m) bo W' ∧ Below n0 W W' := by
  obtain ⟨v', W', h1, h2, h3, h4⟩ := app_facts h.1 hn hy hlen ty
  obtain ⟨p, c, rfl, _⟩ := h2.facts
  refine ⟨p, _, c, W', h1, ⟨h2, fun b hb => ?_⟩, h3⟩
  obtain ⟨g1, g2⟩ := h.2 b hb
  refine ⟨g1, (h4.block b (Array.getElem?_eq_some_iff.1 g2).1 fun he => ?_).trans g2⟩
  rcases h.1.2 with ⟨rfl, _⟩ | ⟨g, cap, cur, rfl, _, hg, _⟩
  · cases he
  · cases he
    rw [g2] at hg
    injection hg with hg
    injection hg with _ hg
    cases hg
theorem kk_mt {n0 : Nat} {W : World} (hn : n0 ≤ W.heap.size) : KK n0 (.slice (some ⟨W.heap.size, 0, none⟩) 0 0) [] none (W.alloc (.cells #[] 43)) :=
  ⟨own_base (own_emptyF W) hn, fun b hb => by cases hb⟩
/-- the base alone -/
def KB (n0 b : Nat) (W : World) : Prop := n0 ≤ b ∧ W.heap[b]? = some (.cells (RW.bcl (.slice none 0 0)) 25 (0, 0))
theorem kb_al {n0 : Nat} {W : World} (hn : n0 ≤ W.heap.size) : KB n0 W.heap.size (W.alloc (.cells (RW.bcl (.slice none 0 0)) 25)) := ⟨hn, newAt rfl⟩
theorem kk_mt2 {n0 b : Nat} {W : World} (h : KB n0 b W) (hn : n0 ≤ W.heap.size) : KK n0 (.slice (some ⟨W.heap.size, 0, none⟩) 0 0) [] (some b) (W.alloc (.cells #[] 43)) :=
  ⟨own_base (own_emptyF W) hn, fun b' hb => by cases hb; exact ⟨h.1, (((Below.refl W.heap.size W).alloc (Nat.le_refl _) _).block _ (Array.getElem?_eq_some_iff.1 h.2).1).trans h.2⟩⟩
/-- the base, with its claims -/
def KE (v : Value) (l : List RW.Fc) (b : Nat) (W : World) : Prop := W.heap[b]? = some (.cells (RW.bcl v) 25 (0, 0)) ∧ FactsV W v l
theorem ke_of {n0 b : Nat} {v : Value} {l : List RW.Fc} {W : World} (h : KK n0 v l (some b) W) : KE v l b (W.setRow b (RW.bcl v)) := by
  obtain ⟨g1, g2⟩ := h.2 b rfl
  refine ⟨setRow_heap _ _ _ _ _ _ g2, OwnF.facts (B := n0) ⟨h.1.1, h.1.2.imp id ?_⟩⟩
  rintro ⟨g, cap, cur, h1, h2, h3, h4⟩
  refine ⟨g, cap, cur, h1, h2, (setRow_else _ _ _ _ fun he => ?_).trans h3, h4⟩
  subst he
  rw [g2] at h3
  injection h3 with h3
  injection h3 with _ h3
  cases h3
theorem KE.next {v : Value} {l : List RW.Fc} {b : Nat} {W W' : World} (h : KE v l b W) (hB : Below W.heap.size W W') : KE v l b W' := ⟨(hB.block _ (Array.getElem?_eq_some_iff.1 h.1).1).trans h.1, h.2.next hB⟩
theorem ldRow_base (x : Value) : Instr.loadAt 25 x = ldRow 25 x := rfl
theorem op_load_base {ev : Operand → Value} {o : Oper} {x : Operand} {w : World} {b : Nat} {v : Value} {l : List RW.Fc} (ho : o.op = .load 25 x) (hx : ev x = .pointer (some ⟨b, 0, none⟩)) (h : KE v l b w) : (execOp ev o).run Try.prog w = .ok (.value (.agg (RW.bcl v))) w := by
  have h1 : (Instr.loadAt 25 (.pointer (some ⟨b, 0, none⟩))).run Try.prog w = .ok (.agg (RW.bcl v)) w :=
    ldRow_mid (cs := (RW.bcl v).toList) (fun j u hj => by rw [cellAt h.1, Nat.zero_add]; simpa using hj) Try.underlying25 rfl (base_size v)
  unfold execOp
  rw [ho]
  simp only [hx, Sem.run_bind, h1, Result.andThen_ok, Sem.run_pure]
theorem op_x5 {ev : Operand → Value} {o : Oper} {x y z s t : Operand} {w : World} {D : Value → World → Prop} {k : Nat} {ts : Array TypeId} {a b c d e : Value} (ho : o.op = .call ⟨.value (.func k), #[x, y, z, s, t], ts⟩) (hf : ev (.func k) = .func (.func k) #[] #[]) (hx : ev x = a) (hy : ev y = b) (hz : ev z = c) (hs : ev s = d) (ht : ev t = e) (hk : ∀ args w, (callFunc k args).run Try.prog w = .ok (.enter k args) w)
    (h : Calls Try.prog k #[a, b, c, d, e] w fun e w'' => ∃ u, e = .returned u ∧ D u w'') : XUp Try.prog D ((execOp ev o).run Try.prog w) := by
  have h1 : (execOp ev o).run Try.prog w = .ok (.enter k #[a, b, c, d, e]) w := by
    unfold execOp
    rw [ho]
    go_simp
  rw [h1]
  exact h
/-- a base under way: its claims are a row of its own -/
structure OrdD (w6 : World) (bd : Nat) (l : List RW.Fc) (z : Value) (W : World) : Prop where
  row : W.heap[bd]? = some (.cells (RW.bcl z) 25 (0, 0))
  own : OwnF W (bd + 1) z l
  below : Below bd w6 W
theorem OrdD.lt {w6 W : World} {bd : Nat} {l : List RW.Fc} {z : Value} (h : OrdD w6 bd l z W) : bd < W.heap.size := (Array.getElem?_eq_some_iff.1 h.row).1
theorem OrdD.next {w6 W W' : World} {bd : Nat} {l : List RW.Fc} {z : Value} (h : OrdD w6 bd l z W) (hB : Below W.heap.size W W') : OrdD w6 bd l z W' :=
  ⟨(hB.block _ h.lt).trans h.row, own_next h.own hB, h.below.trans (hB.mono (Nat.le_of_lt h.lt))⟩
theorem OrdD.app {w6 W : World} {bd : Nat} {l : List RW.Fc} {z y : Value} {m : List RW.Fc} (h : OrdD w6 bd l z W) (hy : FactsV W y m) (hlen : l.length + m.length ≤ 1000000) (ty : TypeId) :
    ∃ a n c W2, (Builtin.append_ #[22, 22] ty #[z, y]).run Try.prog W = .ok (.slice a n c) W2 ∧ OwnF W2 (bd + 1) (.slice a n c) (l ++ m) ∧ W2.heap[bd]? = some (.cells (RW.bcl z) 25 (0, 0)) ∧ Below bd w6 W2 ∧ bd < W2.heap.size := by
  obtain ⟨v', W', h1, h2, h3, h4⟩ := app_facts h.own (Nat.succ_le_of_lt h.lt) hy hlen ty
  obtain ⟨p, c, rfl, _⟩ := h2.facts
  exact ⟨p, _, c, W', h1, h2, (h3.block bd (Nat.lt_succ_self _)).trans h.row, h.below.trans (h3.mono (Nat.le_succ _)), Nat.lt_of_lt_of_le h.lt h3.size⟩
theorem OrdD.put {w6 W : World} {bd : Nat} {l : List RW.Fc} {z z' : Value} (hr : W.heap[bd]? = some (.cells (RW.bcl z) 25 (0, 0))) (ho : OwnF W (bd + 1) z' l) (hB : Below bd w6 W) : OrdD w6 bd l z' (W.setCell ⟨bd, 2, none⟩ z') := by
  refine ⟨(heap_setCell_same _ _ _ _ _ _ hr).trans rfl, ⟨ho.1, ho.2.imp id ?_⟩, hB.setCell (p := ⟨bd, 2, none⟩) (Nat.le_refl _) _⟩
  rintro ⟨g, cap, cur, h1, h2, h3, h4⟩
  exact ⟨g, cap, cur, h1, h2, (Below.heap_setCell _ _ _ _ (by show g ≠ bd; omega)).trans h3, h4⟩
end Go.Proofs.Ytnkdpfkmellpcaa

/-
  Package royaltylaw19: Make: what it returns; only new memory is written.
-/
import Derived.Test.YtillplhadimgmaaSt23
import Derived.Test.YtillplhadimgmaaSt25
namespace Go.Proofs.Ytillplhadimgmaa
open Go.RowKit RG
namespace RW
def keyB (r q : Rw) : Bool := decide (q 0 = r 0) && decide (q 1 = r 1)
def updR (r q : Rw) : Rw := if keyB r q = true then r else q
def putR (l : List Rw) (r : Rw) : List Rw := if l.any (keyB r) = true then l.map (updR r) else l ++ [r]
def mkT (x : Ln) : Rw := mkR (1 + pickI x.1 5) (pickI x.2.1 6) (pickI x.2.2 9 * 10000)
def mkL (xs : List Ln) : List Rw := xs.foldl (fun l x => putR l (mkT x)) []
/-- the rows that Make makes -/
def mkA (xs : List Ln) : List Rw := mkL (xs.take 30)
theorem mkL_snoc (xs : List Ln) (x : Ln) : mkL (xs ++ [x]) = putR (mkL xs) (mkT x) := by unfold mkL; rw [List.foldl_append]; rfl
theorem putR_len (l : List Rw) (r : Rw) : (putR l r).length ≤ l.length + 1 := by
  unfold putR
  split
  · rw [List.length_map]; omega
  · rw [List.length_append]; exact Nat.le_refl _
theorem putR_all (p : Rw → Prop) {l : List Rw} {r : Rw} (h : ∀ q ∈ l, p q) (hr : p r) : ∀ q ∈ putR l r, p q := by
  unfold putR
  split
  · intro q hq
    obtain ⟨q0, h0, rfl⟩ := List.mem_map.1 hq
    unfold updR
    split
    · exact hr
    · exact h q0 h0
  · intro q hq
    rw [List.mem_append, List.mem_singleton] at hq
    rcases hq with hq | rfl
    · exact h q hq
    · exact hr
theorem mkL_all (p : Rw → Prop) (hp : ∀ x, p (mkT x)) (xs : List Ln) : ∀ q ∈ mkL xs, p q := by
  have h : ∀ (xs : List Ln) (l : List Rw), (∀ q ∈ l, p q) → ∀ q ∈ xs.foldl (fun l x => putR l (mkT x)) l, p q := by
    intro xs
    induction xs with
    | nil => exact fun l h => h
    | cons x xs ih => exact fun l h => ih _ (putR_all p h (hp x))
  exact h xs [] fun q hq => by cases hq
theorem mkL_len (xs : List Ln) : (mkL xs).length ≤ xs.length := by
  have h : ∀ (xs : List Ln) (l : List Rw), (xs.foldl (fun l x => putR l (mkT x)) l).length ≤ l.length + xs.length := by
    intro xs
    induction xs with
    | nil => exact fun l => Nat.le_refl _
    | cons x xs ih =>
      intro l
      have h1 := ih (putR l (mkT x))
      have h2 := putR_len l (mkT x)
      rw [List.length_cons]
      show (xs.foldl (fun l x => putR l (mkT x)) (putR l (mkT x))).length ≤ _
      omega
  have := h xs []
  simpa [mkL] using this
theorem mkA_len (xs : List Ln) : (mkA xs).length ≤ 30 := by
  have := mkL_len (xs.take 30)
  rw [List.length_take] at this
  unfold mkA
  omega
/-- a triple of numbers that fit -/
def i64t (x : Ln) : Prop := (-9223372036854775808 ≤ x.1 ∧ x.1 ≤ 9223372036854775807) ∧ (-9223372036854775808 ≤ x.2.1 ∧ x.2.1 ≤ 9223372036854775807) ∧ (-9223372036854775808 ≤ x.2.2 ∧ x.2.2 ≤ 9223372036854775807)
/-- what is known of each row that Make makes -/
def MkOk (q : Rw) : Prop := 1 ≤ q 0 ∧ q 0 ≤ 5 ∧ 0 ≤ q 1 ∧ q 1 ≤ 5 ∧ 0 ≤ q 10 ∧ q 10 ≤ 80000
theorem mkT_ok (x : Ln) : MkOk (mkT x) := by
  have h1 := pickI_bd x.1 5 (by decide)
  have h2 := pickI_bd x.2.1 6 (by decide)
  have h3 := pickI_bd x.2.2 9 (by decide)
  exact ⟨by show 1 ≤ 1 + pickI x.1 5; omega, by show 1 + pickI x.1 5 ≤ 5; omega, by show 0 ≤ pickI x.2.1 6; omega, by show pickI x.2.1 6 ≤ 5; omega, by show 0 ≤ pickI x.2.2 9 * 10000; omega, by show pickI x.2.2 9 * 10000 ≤ 80000; omega⟩
theorem mkA_ok (xs : List Ln) : ∀ q ∈ mkA xs, MkOk q := mkL_all MkOk mkT_ok _
theorem mkA_near (xs : List Ln) : NearR (mkA xs) := fun q hq => by
  have := mkA_ok xs q hq
  unfold MkOk at this
  omega
/-- the first j rows were looked at -/
def upJ (r : Rw) (l : List Rw) (j : Nat) : List Rw := (l.take j).map (updR r) ++ l.drop j
theorem upJ_len (r : Rw) (l : List Rw) (j : Nat) : (upJ r l j).length = l.length := by
  unfold upJ
  rw [List.length_append, List.length_map, List.length_take, List.length_drop]
  omega
theorem upJ_get {r : Rw} {l : List Rw} {j : Nat} {q : Rw} (h : l[j]? = some q) : (upJ r l j)[j]? = some q := by
  have hj := (List.getElem?_eq_some_iff.1 h).1
  unfold upJ
  rw [List.getElem?_append_right (by rw [List.length_map, List.length_take]; omega), List.length_map, List.length_take, List.getElem?_drop, show j + (j - min j l.length) = j by omega]
  exact h
theorem upJ_next {r : Rw} {l : List Rw} {j : Nat} {q : Rw} (h : l[j]? = some q) : upJ r l (j + 1) = (upJ r l j).set j (updR r q) := by
  have hj := (List.getElem?_eq_some_iff.1 h).1
  apply List.ext_getElem?
  intro i
  unfold upJ
  rcases Nat.lt_trichotomy i j with hi | hi | hi
  · rw [List.getElem?_set_ne (by omega), List.getElem?_append_left (by rw [List.length_map, List.length_take]; omega), List.getElem?_append_left (by rw [List.length_map, List.length_take]; omega), List.getElem?_map, List.getElem?_map, List.getElem?_take_of_lt (by omega), List.getElem?_take_of_lt hi]
  · subst hi
    rw [List.getElem?_set_self (by rw [List.length_append, List.length_map, List.length_take, List.length_drop]; omega), List.getElem?_append_left (by rw [List.length_map, List.length_take]; omega), List.getElem?_map, List.getElem?_take_of_lt (by omega), h]
    rfl
  · rw [List.getElem?_set_ne (by omega), List.getElem?_append_right (by rw [List.length_map, List.length_take]; omega), List.getElem?_append_right (by rw [List.length_map, List.length_take]; omega), List.length_map, List.length_map, List.length_take, List.length_take, List.getElem?_drop, List.getElem?_drop]
    congr 1
    omega
theorem upJ_yes {r : Rw} {l : List Rw} {j : Nat} {q : Rw} (h : l[j]? = some q) (hk : keyB r q = true) : upJ r l (j + 1) = (upJ r l j).set j r := by
  rw [upJ_next h, updR, if_pos hk]
theorem upJ_no {r : Rw} {l : List Rw} {j : Nat} {q : Rw} (h : l[j]? = some q) (hk : keyB r q = false) : upJ r l (j + 1) = upJ r l j := by
  rw [upJ_next h, updR, if_neg (by rw [hk]; decide)]
  apply List.ext_getElem?
  intro i
  by_cases e : j = i
  · subst e
    rw [List.getElem?_set_self (by rw [upJ_len]; exact (List.getElem?_eq_some_iff.1 h).1), upJ_get h]
  · rw [List.getElem?_set_ne e]
theorem any_next {α : Type} {p : α → Bool} {l : List α} {j : Nat} {q : α} (h : l[j]? = some q) : (l.take (j + 1)).any p = ((l.take j).any p || p q) := by
  rw [List.take_add_one, h, Option.toList_some, List.any_append, List.any_cons, List.any_nil, Bool.or_false]
theorem upJ_all (r : Rw) (l : List Rw) : upJ r l l.length = l.map (updR r) := by
  unfold upJ
  rw [List.take_length, List.drop_length, List.append_nil]
theorem upJ_none {r : Rw} {l : List Rw} (h : l.any (keyB r) = false) : l.map (updR r) = l := by
  rw [List.any_eq_false] at h
  conv => rhs; rw [← List.map_id l]
  apply List.map_congr_left
  intro q hq
  unfold updR
  rw [if_neg (h q hq)]
  rfl
end RW
/-- the stages of a row under way in block g -/
def mkS (wo : World) (g : Nat) (r : RW.Rw) : Nat → World → Prop
  | 0, w => ∃ m, w = wo.drewN m
  | 1, w => Below g wo w ∧ w.heap[g]? = some (.cells #[.int .i64 0, .int .i64 0, .int .i64 0, .int .i64 0, .int .i64 0, .int .i64 0, .int .i64 0, .int .i64 0, .int .i64 0, .int .i64 0, .int .i64 0, .int .i64 0] 57 (0, 0))
  | _, w => Below g wo w ∧ w.heap[g]? = some (.cells (RW.rwl r).toArray 57 (0, 0))
theorem mkS_bel {wo : World} {g : Nat} {r : RW.Rw} (hg : g = wo.heap.size) : ∀ {j : Nat} {w : World}, mkS wo g r j w → Below g wo w
  | 0, w, ⟨m, e⟩ => by rw [e, hg]; exact ⟨rfl, rfl, rfl, Nat.le_refl _, fun _ _ => rfl⟩
  | 1, w, h => h.1
  | _ + 2, w, h => h.1
section
variable {ev : Operand → Value} {o : Oper} {x y z : Operand} {w : World}
theorem op_1add {a : Int} (ho : o.op = .binOp .add 3 x y 3) (hx : ev x = .int .i64 1) (hy : ev y = .int .i64 a) (h0 : 0 ≤ a) (h1 : a ≤ 1000000) : (execOp ev o).run Try.prog w = .ok (.value (.int .i64 (1 + a))) w := by
  unfold execOp
  rw [ho]
  simp only [hx, hy]
  go_simp
  rw [IntKind.wrap_i64]
  omega
theorem op_mulk {a : Int} (ho : o.op = .binOp .mul 3 x y 3) (hx : ev x = .int .i64 a) (hy : ev y = .int .i64 10000) (h0 : 0 ≤ a) (h1 : a ≤ 1000000) : (execOp ev o).run Try.prog w = .ok (.value (.int .i64 (a * 10000))) w := by
  unfold execOp
  rw [ho]
  simp only [hx, hy]
  go_simp
  rw [IntKind.wrap_i64]
  omega
theorem op_bdr {a b c : Int} {r : RW.Rw} (hr : r = RW.mkR a b c) (ho : o.op = .build 57 #[(0, x), (1, y), (10, z)]) (hx : ev x = .int .i64 a) (hy : ev y = .int .i64 b) (hz : ev z = .int .i64 c) : (execOp ev o).run Try.prog w = .ok (.value (.agg (RW.rwl r).toArray)) w := by
  unfold execOp
  rw [hr, ho]
  go_simp
  rfl
theorem op_call2 {k : Nat} {ts : Array TypeId} {n m : Value} (ho : o.op = .call ⟨.value (.func k), #[x, y], ts⟩) (hf : ev (.func k) = .func (.func k) #[] #[]) (hx : ev x = n) (hy : ev y = m) (hk : ∀ args w, (callFunc k args).run Try.prog w = .ok (.enter k args) w) : (execOp ev o).run Try.prog w = .ok (.enter k #[n, m]) w := by
  unfold execOp
  rw [ho]
  go_simp
end
theorem cf_pick : ∀ args w, (callFunc 11 args).run Try.prog w = .ok (.enter 11 args) w := fun args w => by go_simp
theorem ix_tr {b o n c : Nat} {j : Nat} (hj : j < n) (W : World) : (Instr.indexAt 29 (.slice (some ⟨b, o, none⟩) n c) (.int .i64 j)).run Try.prog W = .ok (.pointer (some ⟨b, o + j * 3, none⟩)) W := by
  go_simp
theorem ix_a0 {b i : Nat} (W : World) : (Instr.indexAt 62 (.pointer (some ⟨b, i, none⟩)) (.int .i64 0)).run Try.prog W = .ok (.pointer (some ⟨b, i, none⟩)) W := by
  go_simp
theorem ix_a1 {b i : Nat} (W : World) : (Instr.indexAt 62 (.pointer (some ⟨b, i, none⟩)) (.int .i64 1)).run Try.prog W = .ok (.pointer (some ⟨b, i + 1, none⟩)) W := by
  go_simp
theorem ix_a2 {b i : Nat} (W : World) : (Instr.indexAt 62 (.pointer (some ⟨b, i, none⟩)) (.int .i64 2)).run Try.prog W = .ok (.pointer (some ⟨b, i + 2, none⟩)) W := by
  go_simp
theorem ix_rw {b o n c : Nat} {j : Nat} (hj : j < n) (W : World) : (Instr.indexAt 23 (.slice (some ⟨b, o, none⟩) n c) (.int .i64 j)).run Try.prog W = .ok (.pointer (some ⟨b, o + j * 12, none⟩)) W := by
  go_simp
theorem fa_rw0 {b i : Nat} (W : World) : (Instr.fieldAt 57 (.pointer (some ⟨b, i, none⟩)) 0).run Try.prog W = .ok (.pointer (some ⟨b, i, none⟩)) W := by
  go_simp
theorem fa_rw1 {b i : Nat} (W : World) : (Instr.fieldAt 57 (.pointer (some ⟨b, i, none⟩)) 1).run Try.prog W = .ok (.pointer (some ⟨b, i + 1, none⟩)) W := by
  go_simp
theorem al_rw (W : World) : (Instr.alloc 57 true (.tuple #[])).run Try.prog W = .ok (.pointer (some ⟨W.heap.size, 0, none⟩)) (W.alloc (.cells #[.int .i64 0, .int .i64 0, .int .i64 0, .int .i64 0, .int .i64 0, .int .i64 0, .int .i64 0, .int .i64 0, .int .i64 0, .int .i64 0, .int .i64 0, .int .i64 0] 57)) := by
  go_simp
theorem there_all {W : World} {g : Nat} {cs : Array Value} {T : TypeId} (h : W.heap[g]? = some (.cells cs T (0, 0))) (n : Nat) (hn : n ≤ cs.size) : W.there g 0 n := fun j hj => by
  refine ⟨?_, by simp [World.frozen?, h]⟩
  rw [cellAt h, Nat.zero_add, Array.getElem?_eq_getElem (Nat.lt_of_lt_of_le hj hn)]
  exact Option.isSome_some
theorem splice_all {c : Array Value} {vs : List Value} (h : c.size = vs.length) : splice c 0 vs = vs.toArray := by
  apply Array.ext_getElem?
  intro i
  by_cases hi : i < vs.length
  · have h1 := splice_in vs c 0 i (by omega) hi
    rw [Nat.zero_add] at h1
    rw [h1, List.getElem?_toArray]
  · rw [splice_out vs c 0 i (by omega), Array.getElem?_eq_none (by omega), List.getElem?_toArray, List.getElem?_eq_none (by omega)]
theorem rw_st {W : World} {g : Nat} {cs : Array Value} (h : W.heap[g]? = some (.cells cs 57 (0, 0))) (hs : cs.size = 12) (x : RW.Rw) :
    ∃ W', (stRow 57 (.pointer (some ⟨g, 0, none⟩)) (.agg (RW.rwl x).toArray)).run Try.prog W = .ok () W' ∧ W'.heap[g]? = some (.cells (RW.rwl x).toArray 57 (0, 0)) ∧ ∀ B w, Below B w W → B ≤ w.heap.size → B ≤ g → Below B w W' := by
  have hn : (RW.rwl x).toArray.size = 12 := rfl
  have ht : W.there g 0 (RW.rwl x).toArray.size := there_all h _ (by rw [hn, hs]; exact Nat.le_refl _)
  have h1 := setCells_heap (RW.rwl x) W g 0 cs _ _ h
  rw [splice_all (by rw [hs]; rfl)] at h1
  exact ⟨_, stRow_mid ht (rw_size x) (rw_one x), h1, fun B w hB h0 hg => hB.grown (setCells_grown _ _ _ _) (Nat.le_trans h0 hB.size) fun k hk => by cases hk; exact hg⟩
/-- the state of Make: the result, the books under way -/
structure MkW (W : World) (B : Nat) (w : World) (z : Int) (v : Value) : Prop where
  b0 : W.heap[B]? = some (.cells (bks 0 (.slice none 0 0)) 28 (0, 0))
  b1 : W.heap[B + 1]? = some (.cells (bks z v) 28 (0, 0))
  bel : Below B w W
theorem MkW.next {W W' : World} {B k : Nat} {w : World} {z : Int} {v : Value} (h : MkW W B w z v) (hB : Below k W W') (hk : B + 1 < k) : MkW W' B w z v := ⟨(hB.block _ (by omega)).trans h.b0, (hB.block _ (by omega)).trans h.b1, h.bel.trans (hB.mono (by omega))⟩
theorem MkW.lt {W : World} {B : Nat} {w : World} {z : Int} {v : Value} (h : MkW W B w z v) : B + 1 < W.heap.size := (Array.getElem?_eq_some_iff.1 h.b1).1
theorem MkW.setv {W : World} {B : Nat} {w : World} {z : Int} {v : Value} (h : MkW W B w z v) (u : Value) : MkW (W.setCell ⟨B + 1, 2, none⟩ u) B w z u :=
  ⟨(Below.heap_setCell _ _ _ _ (by show B ≠ B + 1; omega)).trans h.b0, (heap_setCell_same _ _ _ _ _ _ h.b1).trans rfl, h.bel.setCell (p := ⟨B + 1, 2, none⟩) (by show B ≤ B + 1; omega) _⟩
theorem MkW.drew {W : World} {B : Nat} {w : World} {z : Int} {v : Value} (h : MkW W B w z v) (m : Nat) : MkW (W.drewN m) B w z v := ⟨h.b0, h.b1, h.bel.trans ⟨rfl, rfl, rfl, Nat.le_refl _, fun _ _ => rfl⟩⟩
theorem MkW.row {W : World} {B : Nat} {w : World} {z : Int} {v : Value} (h : MkW W B w z v) {b : Nat} (hb : B + 2 ≤ b) (hbs : B ≤ w.heap.size) (o : Nat) (vs : List Value) : MkW (W.setCells b o vs) B w z v :=
  ⟨((setCells_grown vs W b o).block B (by have := h.lt; omega) (by intro e; cases e; omega)).trans h.b0, ((setCells_grown vs W b o).block (B + 1) h.lt (by intro e; cases e; omega)).trans h.b1, h.bel.grown (setCells_grown _ _ _ _) (Nat.le_trans hbs h.bel.size) fun k e => by cases e; omega⟩
theorem rws_parts {W : World} {B : Nat} {au : Option Addr} {n cu : Nat} {L : List RW.Rw} (h : RwsO W B (.slice au n cu) L) {i : Nat} {q : RW.Rw} (hq : L[i]? = some q) :
    ∃ b, au = some ⟨b, 0, none⟩ ∧ B ≤ b ∧ W.rangeAt b (i * 12) (RW.rwl q) := by
  obtain ⟨a, c, hv⟩ := h.form
  have hn : n = L.length := by injection hv
  subst hn
  have hh := h
  obtain ⟨_, h2⟩ := hh
  rcases h2 with ⟨h0, _⟩ | ⟨g, cap, cur, h0, hB, hg, _⟩
  · have h1 : L.length = 0 := by injection h0
    rw [List.length_eq_zero_iff] at h1
    subst h1
    cases hq
  · injection h0 with h1 h3 h4
    subst h1 h4
    exact ⟨g, rfl, hB, own_range h (i * 12) _ fun k u hk => rowCells_get rw_len L i q hq k u hk⟩
theorem rws_there {W : World} {B b n cu : Nat} {L : List RW.Rw} (h : RwsO W B (.slice (some ⟨b, 0, none⟩) n cu) L) {i : Nat} {q : RW.Rw} (hq : L[i]? = some q) (x : RW.Rw) : W.there b (i * 12) (RW.rwl x).toArray.size := by
  obtain ⟨a, c, hv⟩ := h.form
  have hn : n = L.length := by injection hv
  subst hn
  have hi := (List.getElem?_eq_some_iff.1 hq).1
  exact own_there h (i * 12) 12 (by omega)
theorem rws_set {W : World} {B b n cu : Nat} {L : List RW.Rw} (h : RwsO W B (.slice (some ⟨b, 0, none⟩) n cu) L) {i : Nat} {q : RW.Rw} (hq : L[i]? = some q) (x : RW.Rw) : RwsO (W.setCells b (i * 12) (RW.rwl x)) B (.slice (some ⟨b, 0, none⟩) n cu) (L.set i x) := by
  obtain ⟨a, c, hv⟩ := h.form
  have hn : n = L.length := by injection hv
  subst hn
  have hi := (List.getElem?_eq_some_iff.1 hq).1
  have h1 := own_set rw_len (by decide) h i hi x
  show World.ownsRow _ _ _ _ _ (L.set i x).length _
  rw [List.length_set]
  exact h1
theorem RwsO.drew {W : World} {B : Nat} {v : Value} {l : List RW.Rw} (h : RwsO W B v l) (m : Nat) : RwsO (W.drewN m) B v l := own_keep h fun _ _ => rfl
theorem gen_wl {P : Program} {ops : Array Oper} {l : List Oper} {Q : Exit → Act → World → Prop} {a : Act} {W : World} (R : World → Prop) (hR : R W) (h : ∀ W', R W' → wpList P ops Q l a W') : wpList P ops Q l a W := h W hR
/-- the rows that were looked at in Make -/
structure MkI (W : World) (B : Nat) (w : World) (z : Int) (v : Value) (g : Nat) (r : RW.Rw) (L : List RW.Rw) : Prop where
  st : MkW W B w z v
  rows : RwsO W (B + 2) v L
  own : W.heap[g]? = some (.cells (RW.rwl r).toArray 57 (0, 0))
theorem MkI.drew {W : World} {B : Nat} {w : World} {z : Int} {v : Value} {g : Nat} {r : RW.Rw} {L : List RW.Rw} (h : MkI W B w z v g r L) (m : Nat) : MkI (W.drewN m) B w z v g r L := ⟨h.st.drew m, h.rows.drew m, h.own⟩
theorem MkI.put {W : World} {B : Nat} {w : World} {z : Int} {b n cu : Nat} {g : Nat} {r : RW.Rw} {L : List RW.Rw} (h : MkI W B w z (.slice (some ⟨b, 0, none⟩) n cu) g r L) {i : Nat} {q : RW.Rw} (hq : L[i]? = some q) (hb : B + 2 ≤ b) (hbs : B ≤ w.heap.size) (hbg : b < g) : MkI (W.setCells b (i * 12) (RW.rwl r)) B w z (.slice (some ⟨b, 0, none⟩) n cu) g r (L.set i r) :=
  ⟨h.st.row hb hbs _ _, rws_set h.rows hq r, ((setCells_grown _ W b _).block g (Array.getElem?_eq_some_iff.1 h.own).1 (by intro e; cases e; omega)).trans h.own⟩
set_option maxRecDepth 10000 in
set_option maxHeartbeats 8000000 in
theorem make_any (v : Value) (xs : List RW.Ln) (hx : xs.length ≤ 9223372036854775807) (hxb : ∀ x ∈ xs, (RW.i64t x)) (last : Int) (hl0 : -9223372036854775808 ≤ last) (hl1 : last ≤ 9223372036854775807) (w : World) (hv : LnsV w v xs) :
    Calls Try.prog 10 #[v, .int .i64 last] w fun e w' => ∃ u, e = .returned (.agg (bks (RW.pickI last 8) u)) ∧ RwsO w' w.heap.size u (RW.mkA xs) ∧ Below w.heap.size w w' := by
  obtain ⟨av, cv, rfl, _, hav⟩ := hv
  obtain ⟨m, hm⟩ : ∃ m, m = xs.length := ⟨_, rfl⟩
  have hmH := hide hm
  have havH := hide hav
  have hxbH := hide hxb
  rw [← hm] at hx ⊢
  obtain ⟨B, hB⟩ : ∃ B, B = w.heap.size := ⟨_, rfl⟩
  have hBH := hide hB
  obtain ⟨z, hz⟩ : ∃ z, z = RW.pickI last 8 := ⟨_, rfl⟩
  have hP := hide (fun W => pick_any last 8 hl0 hl1 (by decide) (by decide) W)
  rw [← hz] at hP ⊢
  have hA0 := hide (alloc_bel (Below.refl w.heap.size w) (Nat.le_refl _) (.cells (bks 0 (.slice none 0 0)) 28))
  have hM0 := hide (show MkW ((w.alloc (.cells (bks 0 (.slice none 0 0)) 28)).alloc (.cells (bks z (.slice none 0 0)) 28)) B w z (.slice none 0 0) from
    ⟨by rw [hB]; exact alloc_old _ _ (alloc_at1 _ _), by rw [hB, ← alloc_size w (.cells (bks 0 (.slice none 0 0)) 28)]; exact alloc_at1 _ _, by rw [hB]; exact alloc_bel hA0.out (Nat.le_refl _) _⟩)
  have hM1 := hide (show ((w.alloc (.cells (bks 0 (.slice none 0 0)) 28)).alloc (.cells (bks z (.slice none 0 0)) 28)).heap.size = B + 1 + 1 by rw [alloc_size, alloc_size, hB])
  rw [← hB]
  clear hm hav hB hz hxb hA0
  unfold bks at hM0 hM1
  go_enter Try.func10, Try.ntmps10
  go_upto_region 3 with (go_at_call 11; refine (hP.out _).mono ?_; rintro e w' ⟨rfl, rfl⟩)
  rw [← hBH.out]
  go_loopw [6] (fun i wr => ∃ (j : Nat) (u : Value), i = .int .i64 j ∧ j ≤ m ∧ j ≤ 30 ∧ Hid (MkW wr B w z u ∧ RwsO wr (B + 2) u (RW.mkL (xs.take j)) ∧ B + 2 ≤ wr.heap.size)) (fun i _ => 30 - (intOf i).toNat)
  case atStart => exact ⟨0, _, rfl, Nat.zero_le _, Nat.zero_le _, hM0.out, RwsO.nil _ _, Nat.le_of_eq hM1.out.symm⟩
  case round =>
    obtain ⟨j, u, rfl, hj, hj30, hQ⟩ := hrel
    obtain ⟨wo, hwo⟩ : ∃ wo, wo = wr := ⟨_, rfl⟩
    subst hwo
    have hM := hide hQ.out.1
    have hR := hide hQ.out.2.1
    have hsz := hide hQ.out.2.2
    clear hQ hM0 hM1
    by_cases hjm : j < m
    · by_cases hj3 : j < 30
      · obtain ⟨x, hx⟩ : ∃ r, xs[j]? = some r := ⟨_, List.getElem?_eq_getElem (by rw [← hmH.out]; exact hjm)⟩
        obtain ⟨b, o, rfl, hbb, hc⟩ := havH.out.resolve_left (by rintro rfl; simp at hx)
        have hrg := hide (fun (W : World) (hW : Below wo.heap.size wo W) => (show W.rangeAt b (o + j * 3) (RW.lnl x) from fun i u hu => (World.cell?_of_block (a := ⟨b, o + j * 3 + i, none⟩) (((hM.out.next hW hM.out.lt).bel).block _ (by rw [hBH.out]; exact hbb))).trans (hc j x hx i u hu)))
        have hxi := hxbH.out x (List.mem_of_getElem? hx)
        have htk := hide (show RW.mkL (xs.take (j + 1)) = RW.putR (RW.mkL (xs.take j)) (RW.mkT x) by rw [List.take_add_one, hx, Option.toList_some, RW.mkL_snoc])
        have hP0 := hide (fun W => pick_any x.1 5 hxi.1.1 hxi.1.2 (by decide) (by decide) W)
        have hP1 := hide (fun W => pick_any x.2.1 6 hxi.2.1.1 hxi.2.1.2 (by decide) (by decide) W)
        have hP2 := hide (fun W => pick_any x.2.2 9 hxi.2.2.1 hxi.2.2.2 (by decide) (by decide) W)
        have k0 := RW.pickI_bd x.1 5 (by decide)
        have k1 := RW.pickI_bd x.2.1 6 (by decide)
        have k2 := RW.pickI_bd x.2.2 9 (by decide)
        have hrT := hide (show RW.mkT x = RW.mkR (1 + RW.pickI x.1 5) (RW.pickI x.2.1 6) (RW.pickI x.2.2 9 * 10000) from rfl)
        obtain ⟨p0, hp0⟩ : ∃ p, p = RW.pickI x.1 5 := ⟨_, rfl⟩
        obtain ⟨p1, hp1⟩ : ∃ p, p = RW.pickI x.2.1 6 := ⟨_, rfl⟩
        obtain ⟨p2, hp2⟩ : ∃ p, p = RW.pickI x.2.2 9 := ⟨_, rfl⟩
        rw [← hp0] at hP0 hrT k0
        rw [← hp1] at hP1 hrT k1
        rw [← hp2] at hP2 hrT k2
        have kk := hide (And.intro k0 (And.intro k1 k2))
        obtain ⟨r, hr⟩ : ∃ r, r = RW.mkT x := ⟨_, rfl⟩
        rw [← hr] at htk hrT
        have hjmH := hide hjm
        obtain ⟨g, hg⟩ : ∃ g, g = wo.heap.size := ⟨_, rfl⟩
        have hgH := hide hg
        clear hx hbb hc hxi hp0 hp1 hp2 k0 k1 k2 hr
        go_upto_region 5 with fail
        clear hg
        go_cut [7] (fun s wx => s = .pointer (some ⟨g, 0, none⟩) ∧ Below g wo wx ∧ wx.heap[g]? = some (.cells (RW.rwl r).toArray 57 (0, 0)))
        case first =>
          refine wp_region_staged (mkS wo g r) [21, 22] (by kernel_rfl) (by kernel_rfl) (by rfl) ⟨1, rfl⟩ ?_
          refine st_op (.slice (some ⟨b, o, none⟩) m cv) (by rfl) (by rfl) (fun j' w' _ hS => by rw [op_mv rfl rfl]; exact ⟨rfl, hS⟩) ?_
          simp only [Act.put, List.setIfInBounds_toArray, List.set_cons_zero, List.set_cons_succ]
          refine st_op (.int .i64 (j : Int)) (by rfl) (by rfl) (fun j' w' _ hS => by rw [op_mv rfl rfl]; exact ⟨rfl, hS⟩) ?_
          simp only [Act.put, List.setIfInBounds_toArray, List.set_cons_zero, List.set_cons_succ]
          refine st_op (.pointer (some ⟨b, o + j * 3, none⟩)) (by rfl) (by rfl) (fun j' w' _ hS => by rw [op_ix rfl rfl rfl (ix_tr hjmH.out w')]; exact ⟨rfl, hS⟩) ?_
          simp only [Act.put, List.setIfInBounds_toArray, List.set_cons_zero, List.set_cons_succ]
          refine st_op (.pointer (some ⟨b, o + j * 3, none⟩)) (by rfl) (by rfl) (fun j' w' _ hS => by rw [op_ix rfl rfl rfl (ix_a0 w')]; exact ⟨rfl, hS⟩) ?_
          simp only [Act.put, List.setIfInBounds_toArray, List.set_cons_zero, List.set_cons_succ]
          refine st_op (.int .i64 x.1) (by rfl) (by rfl) (fun j' w' _ hS => by rw [op_ld rfl rfl (int_ld (hrg.out w' (hgH.out ▸ mkS_bel hgH.out hS) 0 _ rfl))]; exact ⟨rfl, hS⟩) ?_
          simp only [Act.put, List.setIfInBounds_toArray, List.set_cons_zero, List.set_cons_succ]
          refine st_op (.int .i64 p0) (by rfl) (by rfl) (fun j' w' _ hS => by rw [op_call2 rfl rfl rfl rfl cf_pick]; exact (hP0.out w').mono fun e w2 h => by obtain ⟨rfl, rfl⟩ := h; exact ⟨rfl, hS⟩) ?_
          simp only [Act.put, List.setIfInBounds_toArray, List.set_cons_zero, List.set_cons_succ]
          refine st_op (.int .i64 (1 + p0)) (by rfl) (by rfl) (fun j' w' _ hS => by rw [op_1add rfl rfl rfl kk.out.1.1 (by have := kk.out.1.2; omega)]; exact ⟨rfl, hS⟩) ?_
          simp only [Act.put, List.setIfInBounds_toArray, List.set_cons_zero, List.set_cons_succ]
          refine st_op (.slice (some ⟨b, o, none⟩) m cv) (by rfl) (by rfl) (fun j' w' _ hS => by rw [op_mv rfl rfl]; exact ⟨rfl, hS⟩) ?_
          simp only [Act.put, List.setIfInBounds_toArray, List.set_cons_zero, List.set_cons_succ]
          refine st_op (.int .i64 (j : Int)) (by rfl) (by rfl) (fun j' w' _ hS => by rw [op_mv rfl rfl]; exact ⟨rfl, hS⟩) ?_
          simp only [Act.put, List.setIfInBounds_toArray, List.set_cons_zero, List.set_cons_succ]
          refine st_op (.pointer (some ⟨b, o + j * 3, none⟩)) (by rfl) (by rfl) (fun j' w' _ hS => by rw [op_ix rfl rfl rfl (ix_tr hjmH.out w')]; exact ⟨rfl, hS⟩) ?_
          simp only [Act.put, List.setIfInBounds_toArray, List.set_cons_zero, List.set_cons_succ]
          refine st_op (.pointer (some ⟨b, o + j * 3 + 1, none⟩)) (by rfl) (by rfl) (fun j' w' _ hS => by rw [op_ix rfl rfl rfl (ix_a1 w')]; exact ⟨rfl, hS⟩) ?_
          simp only [Act.put, List.setIfInBounds_toArray, List.set_cons_zero, List.set_cons_succ]
          refine st_op (.int .i64 x.2.1) (by rfl) (by rfl) (fun j' w' _ hS => by rw [op_ld rfl rfl (int_ld (hrg.out w' (hgH.out ▸ mkS_bel hgH.out hS) 1 _ rfl))]; exact ⟨rfl, hS⟩) ?_
          simp only [Act.put, List.setIfInBounds_toArray, List.set_cons_zero, List.set_cons_succ]
          refine st_op (.int .i64 p1) (by rfl) (by rfl) (fun j' w' _ hS => by rw [op_call2 rfl rfl rfl rfl cf_pick]; exact (hP1.out w').mono fun e w2 h => by obtain ⟨rfl, rfl⟩ := h; exact ⟨rfl, hS⟩) ?_
          simp only [Act.put, List.setIfInBounds_toArray, List.set_cons_zero, List.set_cons_succ]
          refine st_op (.slice (some ⟨b, o, none⟩) m cv) (by rfl) (by rfl) (fun j' w' _ hS => by rw [op_mv rfl rfl]; exact ⟨rfl, hS⟩) ?_
          simp only [Act.put, List.setIfInBounds_toArray, List.set_cons_zero, List.set_cons_succ]
          refine st_op (.int .i64 (j : Int)) (by rfl) (by rfl) (fun j' w' _ hS => by rw [op_mv rfl rfl]; exact ⟨rfl, hS⟩) ?_
          simp only [Act.put, List.setIfInBounds_toArray, List.set_cons_zero, List.set_cons_succ]
          refine st_op (.pointer (some ⟨b, o + j * 3, none⟩)) (by rfl) (by rfl) (fun j' w' _ hS => by rw [op_ix rfl rfl rfl (ix_tr hjmH.out w')]; exact ⟨rfl, hS⟩) ?_
          simp only [Act.put, List.setIfInBounds_toArray, List.set_cons_zero, List.set_cons_succ]
          refine st_op (.pointer (some ⟨b, o + j * 3 + 2, none⟩)) (by rfl) (by rfl) (fun j' w' _ hS => by rw [op_ix rfl rfl rfl (ix_a2 w')]; exact ⟨rfl, hS⟩) ?_
          simp only [Act.put, List.setIfInBounds_toArray, List.set_cons_zero, List.set_cons_succ]
          refine st_op (.int .i64 x.2.2) (by rfl) (by rfl) (fun j' w' _ hS => by rw [op_ld rfl rfl (int_ld (hrg.out w' (hgH.out ▸ mkS_bel hgH.out hS) 2 _ rfl))]; exact ⟨rfl, hS⟩) ?_
          simp only [Act.put, List.setIfInBounds_toArray, List.set_cons_zero, List.set_cons_succ]
          refine st_op (.int .i64 p2) (by rfl) (by rfl) (fun j' w' _ hS => by rw [op_call2 rfl rfl rfl rfl cf_pick]; exact (hP2.out w').mono fun e w2 h => by obtain ⟨rfl, rfl⟩ := h; exact ⟨rfl, hS⟩) ?_
          simp only [Act.put, List.setIfInBounds_toArray, List.set_cons_zero, List.set_cons_succ]
          refine st_op (.int .i64 (p2 * 10000)) (by rfl) (by rfl) (fun j' w' _ hS => by rw [op_mulk rfl rfl rfl kk.out.2.2.1 (by have := kk.out.2.2.2; omega)]; exact ⟨rfl, hS⟩) ?_
          simp only [Act.put, List.setIfInBounds_toArray, List.set_cons_zero, List.set_cons_succ]
          refine st_op (.agg (RW.rwl r).toArray) (by rfl) (by rfl) (fun j' w' _ hS => by rw [op_bdr hrT.out rfl rfl rfl rfl]; exact ⟨rfl, hS⟩) ?_
          simp only [Act.put, List.setIfInBounds_toArray, List.set_cons_zero, List.set_cons_succ]
          refine st_step 0 (.pointer (some ⟨g, 0, none⟩)) (by rfl) (by rfl) (by decide +kernel) (fun w' hS => by
            obtain ⟨m', rfl⟩ := hS
            rw [op_al rfl (al_rw (wo.drewN m'))]
            refine ⟨by rw [hgH.out]; rfl, ?_, ?_⟩
            · rw [hgH.out]; exact alloc_bel (show Below wo.heap.size wo (wo.drewN m') from ⟨rfl, rfl, rfl, Nat.le_refl _, fun _ _ => rfl⟩) (Nat.le_refl _) _
            · rw [hgH.out]; exact alloc_at1 (wo.drewN m') _) ?_
          simp only [Act.put, List.setIfInBounds_toArray, List.set_cons_zero, List.set_cons_succ]
          refine st_step 1 undef (by rfl) (by rfl) (by decide +kernel) (fun w' hS => by
            obtain ⟨W', r1, r2, r3⟩ := rw_st hS.2 rfl r
            rw [op_st rfl rfl rfl r1]
            exact ⟨rfl, r3 _ _ hS.1 (Nat.le_of_eq hgH.out) (Nat.le_refl _), r2⟩) ?_
          simp only [Act.put]
          refine st_nil ?_
          rintro w' hw'
          clear kk hP0 hP1 hP2 hrg
          go_wp2
          all_goals go_meet
          all_goals exact ⟨rfl, hw'.1, hw'.2⟩
        case rest =>
        obtain ⟨rfl, hB5, hg5⟩ := hcut
        obtain ⟨w5, hw5⟩ : ∃ x, x = wc := ⟨_, rfl⟩
        subst hw5
        have hM5 := hide (hM.out.next hB5 (by rw [hgH.out]; exact hM.out.lt))
        have hR5 := hide (hR.out.next (hgH.out ▸ hB5))
        have hg5H := hide hg5
        have hgB := hide (show B + 2 ≤ g by rw [hgH.out]; exact hsz.out)
        have hsz5 := hide (Nat.le_trans hsz.out (hgH.out ▸ hB5).size)
        have hog := hide (fun k (hk : u.ownBlock = some k) => (show k < g by rw [hgH.out]; exact (own_block hR.out hk).2.1))
        clear hB5 hg5 hM hR hsz hrg hP0 hP1 hP2 kk
        obtain ⟨l, hl⟩ : ∃ l, l = RW.mkL (xs.take j) := ⟨_, rfl⟩
        have hll := hide (show l.length ≤ 30 by
          rw [hl]
          have := RW.mkL_len (xs.take j)
          rw [List.length_take] at this
          omega)
        rw [← hl] at hR5 htk
        clear hl
        obtain ⟨n, hn⟩ : ∃ n, n = l.length := ⟨_, rfl⟩
        have hnH := hide hn
        have hll2 : n ≤ 30 := by rw [hn]; exact hll.out
        obtain ⟨au, cu, hu⟩ := hR5.out.form
        rw [← hn] at hu
        subst hu
        clear hn
        have hI0 := hide (show MkI w5 B w z (.slice au n cu) g r (RW.upJ r l 0) from ⟨hM5.out, hR5.out, hg5H.out⟩)
        clear hM5 hR5 hg5H
        go_wp2
        go_loopw [8, 9] (fun fv i wr => ∃ (k : Nat) (f : Bool), fv = .bool f ∧ i = .int .i64 k ∧ k ≤ n ∧ Hid (MkI wr B w z (.slice au n cu) g r (RW.upJ r l k) ∧ f = (l.take k).any (RW.keyB r) ∧ B + 2 ≤ wr.heap.size)) (fun _ i _ => n - (intOf i).toNat)
        case atStart => exact ⟨0, false, rfl, rfl, Nat.zero_le _, hI0.out, rfl, hsz5.out⟩
        case round =>
          obtain ⟨k, f, rfl, rfl, hk, hQ⟩ := hrel
          obtain ⟨wi, hwi⟩ : ∃ wi, wi = wr := ⟨_, rfl⟩
          subst hwi
          have hI := hide hQ.out.1
          have hF := hide hQ.out.2.1
          have hszi := hide hQ.out.2.2
          have e2 : wi.cell? ⟨B + 1, 2, none⟩ = some (.slice au n cu) := cellAt hI.out.st.b1 2
          clear hQ hI0 hsz5
          by_cases hkn : k < n
          · obtain ⟨q, hq⟩ : ∃ q, l[k]? = some q := ⟨_, List.getElem?_eq_getElem (by rw [← hnH.out]; exact hkn)⟩
            obtain ⟨b, hau, hbB, hrg⟩ := rws_parts hI.out.rows (RW.upJ_get hq)
            subst hau
            have hbBH := hide hbB
            have hqH := hide hq
            have hbg := hide (hog.out b rfl)
            have c0 : wi.cell? ⟨b, 0 + k * 12, none⟩ = some (.int .i64 (q 0)) := by rw [Nat.zero_add]; exact hrg 0 _ rfl
            have c1 : wi.cell? ⟨b, 0 + k * 12 + 1, none⟩ = some (.int .i64 (q 1)) := by rw [Nat.zero_add]; exact hrg 1 _ rfl
            have d0 : wi.cell? ⟨g, 0, none⟩ = some (.int .i64 (r 0)) := cellAt hI.out.own 0
            have d1 : wi.cell? ⟨g, 0 + 1, none⟩ = some (.int .i64 (r 1)) := cellAt hI.out.own 1
            have cellsH := hide (fun w' (hS : ∃ m, w' = wi.drewN m) => (show w'.cell? ⟨b, 0 + k * 12, none⟩ = some (.int .i64 (q 0)) ∧ w'.cell? ⟨b, 0 + k * 12 + 1, none⟩ = some (.int .i64 (q 1)) ∧ w'.cell? ⟨g, 0, none⟩ = some (.int .i64 (r 0)) ∧ w'.cell? ⟨g, 0 + 1, none⟩ = some (.int .i64 (r 1)) ∧ w'.cell? ⟨B + 1, 2, none⟩ = some (.slice (some ⟨b, 0, none⟩) n cu) from by
              obtain ⟨m, rfl⟩ := hS
              exact ⟨c0, c1, d0, d1, e2⟩))
            clear c0 c1 d0 d1 hrg
            obtain ⟨p0, hp0⟩ : ∃ p, p = decide (q 0 = r 0) := ⟨_, rfl⟩
            obtain ⟨p1, hp1⟩ : ∃ p, p = decide (q 1 = r 1) := ⟨_, rfl⟩
            obtain ⟨kk, hkk⟩ : ∃ p, p = (p0 && p1) := ⟨_, rfl⟩
            have hp0H := hide hp0
            have hp1H := hide hp1
            have hpk := hide (show (if p0 = true then gd p0 (.bool p1) else Value.bool false) = .bool kk by rw [hkk]; cases p0 <;> rfl)
            have hkkH := hide (show RW.keyB r q = kk by rw [hkk, hp0, hp1]; rfl)
            have hknH := hide hkn
            obtain ⟨x0, hx0⟩ : ∃ p, p = q 0 := ⟨_, rfl⟩
            obtain ⟨x1, hx1⟩ : ∃ p, p = q 1 := ⟨_, rfl⟩
            obtain ⟨y0, hy0⟩ : ∃ p, p = r 0 := ⟨_, rfl⟩
            obtain ⟨y1, hy1⟩ : ∃ p, p = r 1 := ⟨_, rfl⟩
            rw [← hx0, ← hx1, ← hy0, ← hy1] at cellsH
            rw [← hx0, ← hy0] at hp0H
            rw [← hx1, ← hy1] at hp1H
            clear hx0 hx1 hy0 hy1
            clear hp0 hp1 hkk hq hbB
            go_upto_region 10 with fail
            go_cut [70] (fun s wx => s = .bool kk ∧ ∃ m, wx = wi.drewN m)
            case first =>
              refine wp_region_staged (fun _ w' => ∃ m, w' = wi.drewN m) [] (by kernel_rfl) (by kernel_rfl) (by rfl) ⟨1, rfl⟩ ?_
              refine st_op (.pointer (some ⟨B + 1, 2, none⟩)) (by rfl) (by rfl) (fun j' w' _ hS => by rw [op_fa rfl rfl (fa_bk w')]; exact ⟨rfl, hS⟩) ?_
              simp only [Act.put, List.setIfInBounds_toArray, List.set_cons_zero, List.set_cons_succ]
              refine st_op (.slice (some ⟨b, 0, none⟩) n cu) (by rfl) (by rfl) (fun j' w' _ hS => by rw [op_ld rfl rfl (sl_ld (cellsH.out w' hS).2.2.2.2)]; exact ⟨rfl, hS⟩) ?_
              simp only [Act.put, List.setIfInBounds_toArray, List.set_cons_zero, List.set_cons_succ]
              refine st_op (.int .i64 (k : Int)) (by rfl) (by rfl) (fun j' w' _ hS => by rw [op_mv rfl rfl]; exact ⟨rfl, hS⟩) ?_
              simp only [Act.put, List.setIfInBounds_toArray, List.set_cons_zero, List.set_cons_succ]
              refine st_op (.pointer (some ⟨b, 0 + k * 12, none⟩)) (by rfl) (by rfl) (fun j' w' _ hS => by rw [op_ix rfl rfl rfl (ix_rw hknH.out w')]; exact ⟨rfl, hS⟩) ?_
              simp only [Act.put, List.setIfInBounds_toArray, List.set_cons_zero, List.set_cons_succ]
              refine st_op (.pointer (some ⟨b, 0 + k * 12, none⟩)) (by rfl) (by rfl) (fun j' w' _ hS => by rw [op_fa rfl rfl (fa_rw0 w')]; exact ⟨rfl, hS⟩) ?_
              simp only [Act.put, List.setIfInBounds_toArray, List.set_cons_zero, List.set_cons_succ]
              refine st_op (.int .i64 x0) (by rfl) (by rfl) (fun j' w' _ hS => by rw [op_ld rfl rfl (int_ld (cellsH.out w' hS).1)]; exact ⟨rfl, hS⟩) ?_
              simp only [Act.put, List.setIfInBounds_toArray, List.set_cons_zero, List.set_cons_succ]
              refine st_op (.pointer (some ⟨g, 0, none⟩)) (by rfl) (by rfl) (fun j' w' _ hS => by rw [op_fa rfl rfl (fa_rw0 w')]; exact ⟨rfl, hS⟩) ?_
              simp only [Act.put, List.setIfInBounds_toArray, List.set_cons_zero, List.set_cons_succ]
              refine st_op (.int .i64 y0) (by rfl) (by rfl) (fun j' w' _ hS => by rw [op_ld rfl rfl (int_ld (cellsH.out w' hS).2.2.1)]; exact ⟨rfl, hS⟩) ?_
              simp only [Act.put, List.setIfInBounds_toArray, List.set_cons_zero, List.set_cons_succ]
              refine st_op (.bool p0) (by rfl) (by rfl) (fun j' w' _ hS => by rw [op_eqi rfl rfl rfl, ← hp0H.out]; exact ⟨rfl, hS⟩) ?_
              simp only [Act.put, List.setIfInBounds_toArray, List.set_cons_zero, List.set_cons_succ]
              refine st_op (.bool p0) (by rfl) (by rfl) (fun j' w' _ hS => by rw [op_mv rfl rfl]; exact ⟨rfl, hS⟩) ?_
              simp only [Act.put, List.setIfInBounds_toArray, List.set_cons_zero, List.set_cons_succ]
              refine st_if p0 (.pointer (some ⟨B + 1, 2, none⟩)) (by cases p0 <;> rfl) (by rfl) (fun hq j' w' _ hS => by rw [op_fa rfl rfl (fa_bk w')]; exact ⟨rfl, hS⟩) ?_
              simp only [Act.put, List.setIfInBounds_toArray, List.set_cons_zero, List.set_cons_succ]
              refine st_if p0 (.slice (some ⟨b, 0, none⟩) n cu) (by cases p0 <;> rfl) (by rfl) (fun hq j' w' _ hS => by rw [op_ld rfl (gd_pos hq) (sl_ld (cellsH.out w' hS).2.2.2.2)]; exact ⟨rfl, hS⟩) ?_
              simp only [Act.put, List.setIfInBounds_toArray, List.set_cons_zero, List.set_cons_succ]
              refine st_if p0 (.int .i64 (k : Int)) (by cases p0 <;> rfl) (by rfl) (fun hq j' w' _ hS => by rw [op_mv rfl rfl]; exact ⟨rfl, hS⟩) ?_
              simp only [Act.put, List.setIfInBounds_toArray, List.set_cons_zero, List.set_cons_succ]
              refine st_if p0 (.pointer (some ⟨b, 0 + k * 12, none⟩)) (by cases p0 <;> rfl) (by rfl) (fun hq j' w' _ hS => by rw [op_ix rfl (gd_pos hq) (gd_pos hq) (ix_rw hknH.out w')]; exact ⟨rfl, hS⟩) ?_
              simp only [Act.put, List.setIfInBounds_toArray, List.set_cons_zero, List.set_cons_succ]
              refine st_if p0 (.pointer (some ⟨b, 0 + k * 12 + 1, none⟩)) (by cases p0 <;> rfl) (by rfl) (fun hq j' w' _ hS => by rw [op_fa rfl (gd_pos hq) (fa_rw1 w')]; exact ⟨rfl, hS⟩) ?_
              simp only [Act.put, List.setIfInBounds_toArray, List.set_cons_zero, List.set_cons_succ]
              refine st_if p0 (.int .i64 x1) (by cases p0 <;> rfl) (by rfl) (fun hq j' w' _ hS => by rw [op_ld rfl (gd_pos hq) (int_ld (cellsH.out w' hS).2.1)]; exact ⟨rfl, hS⟩) ?_
              simp only [Act.put, List.setIfInBounds_toArray, List.set_cons_zero, List.set_cons_succ]
              refine st_if p0 (.pointer (some ⟨g, 0 + 1, none⟩)) (by cases p0 <;> rfl) (by rfl) (fun hq j' w' _ hS => by rw [op_fa rfl rfl (fa_rw1 w')]; exact ⟨rfl, hS⟩) ?_
              simp only [Act.put, List.setIfInBounds_toArray, List.set_cons_zero, List.set_cons_succ]
              refine st_if p0 (.int .i64 y1) (by cases p0 <;> rfl) (by rfl) (fun hq j' w' _ hS => by rw [op_ld rfl (gd_pos hq) (int_ld (cellsH.out w' hS).2.2.2.1)]; exact ⟨rfl, hS⟩) ?_
              simp only [Act.put, List.setIfInBounds_toArray, List.set_cons_zero, List.set_cons_succ]
              refine st_if p0 (.bool p1) (by cases p0 <;> rfl) (by rfl) (fun hq j' w' _ hS => by rw [op_eqi rfl (gd_pos hq) (gd_pos hq), ← hp1H.out]; exact ⟨rfl, hS⟩) ?_
              simp only [Act.put, List.setIfInBounds_toArray, List.set_cons_zero, List.set_cons_succ]
              refine st_op (.bool kk) (by rfl) (by rfl) (fun j' w' _ hS => by rw [op_pk rfl rfl rfl rfl hpk.out]; exact ⟨rfl, hS⟩) ?_
              simp only [Act.put, List.setIfInBounds_toArray, List.set_cons_zero, List.set_cons_succ]
              refine st_nil ?_
              rintro w' hw'
              clear cellsH hp0H hp1H hpk
              go_wp2
              all_goals go_meet
              all_goals exact ⟨rfl, hw'⟩
            case rest =>
            obtain ⟨rfl, hw'⟩ := hcut
            have hI6 := hide (show MkI wc B w z (.slice (some ⟨b, 0, none⟩) n cu) g r (RW.upJ r l k) by obtain ⟨m, rfl⟩ := hw'; exact hI.out.drew m)
            have hsz6 := hide (show B + 2 ≤ wc.heap.size by obtain ⟨m, rfl⟩ := hw'; exact hszi.out)
            clear hw' cellsH hI e2 hszi hp0H hp1H hpk
            cases kk
            · go_wp2
              go_roundw
              case rel => exact ⟨k + 1, f, rfl, by go_num, by omega, by rw [RW.upJ_no hqH.out hkkH.out]; exact hI6.out, by rw [RW.any_next hqH.out, hkkH.out, Bool.or_false]; exact hF.out, hsz6.out⟩
              case measure => simp [intOf]; omega
            · have e2 : wc.cell? ⟨B + 1, 2, none⟩ = some (.slice (some ⟨b, 0, none⟩) n cu) := cellAt hI6.out.st.b1 2
              have hrow : wc.rangeAt g 0 (RW.rwl r) := fun i u hu => by rw [Nat.zero_add]; exact (cellAt hI6.out.own i).trans (by rw [List.getElem?_toArray]; exact hu)
              have hps := rw_size r
              have hone := rw_one r
              have hth := rws_there hI6.out.rows (RW.upJ_get hqH.out) r
              have hI7 := hide (hI6.out.put (RW.upJ_get hqH.out) hbBH.out (Nat.le_of_eq hBH.out) hbg.out)
              have hsz7 := hide (Nat.le_trans hsz6.out (setCells_grown (RW.rwl r) wc b (k * 12)).size)
              go_wp2_with (first
                | (refine wpList_load_mid rfl 57 (.tmp 7) rfl g 0 rfl (RW.rwl r) _ hrow Try.underlying57 rfl hps ?_)
                | (refine wpList_store_mid rfl 57 (.tmp 75) (.tmp 74) rfl b (k * 12) (RW.rwl r).toArray rfl rfl hth hps hone ?_; refine gen_wl (fun W => MkI W B w z (.slice (some ⟨b, 0, none⟩) n cu) g r ((RW.upJ r l k).set k r) ∧ B + 2 ≤ W.heap.size) ⟨hI7.out, hsz7.out⟩ ?_; clear hI7 hsz7 hth hI6 hsz6; rintro w7 ⟨hI8', hsz8'⟩; have hI8 := hide hI8'; have hsz8 := hide hsz8'; clear hI8' hsz8' e2 hrow))
              go_roundw
              case rel => exact ⟨k + 1, true, rfl, by go_num, by omega, by rw [RW.upJ_yes hqH.out hkkH.out]; exact hI8.out, by rw [RW.any_next hqH.out, hkkH.out, Bool.or_true], hsz8.out⟩
              case measure => simp [intOf]; omega
          · obtain rfl : n = k := by omega
            have hF2 := hide (show f = l.any (RW.keyB r) by rw [hF.out, hnH.out, List.take_length])
            have hI2 := hide (show MkI wi B w z (.slice au n cu) g r (l.map (RW.updR r)) by rw [← RW.upJ_all, ← hnH.out]; exact hI.out)
            clear hI hF
            cases f
            · have hLl := hide (show RW.mkL (xs.take (j + 1)) = l ++ [r] by rw [htk.out, RW.putR, if_neg (by rw [← hF2.out]; decide)])
              have hI3 := hide (show MkI wi B w z (.slice au n cu) g r l by rw [← RW.upJ_none hF2.out.symm]; exact hI2.out)
              clear hI2
              have hrow : wi.rangeAt g 0 (RW.rwl r) := fun i u hu => by rw [Nat.zero_add]; exact (cellAt hI3.out.own i).trans (by rw [List.getElem?_toArray]; exact hu)
              have hps := rw_size r
              have hl12 : (RW.rwl r).length = 12 := rfl
              obtain ⟨v8, w8, hrun, hO8, hB8⟩ := hI3.out.rows.appNew r (by have := hll.out; omega) hszi.out
              have hM8 := hide (hI3.out.st.next hB8 (by omega))
              obtain ⟨a8, c8, hv8⟩ := hO8.form
              obtain ⟨n8, hn8⟩ : ∃ q, q = (l ++ [r]).length := ⟨_, rfl⟩
              rw [← hn8] at hv8
              subst hv8
              have f4 : w8.cell? ⟨B + 1, 2, none⟩ = some (.slice au n cu) := cellAt hM8.out.b1 2
              have f4f : w8.frozen? ⟨B + 1, 2, none⟩ = false := by simp [World.frozen?, hM8.out.b1]
              have hM9 := hide (hM8.out.setv (.slice a8 n8 c8))
              have hO9 := hide (own_keep (W' := w8.setCell ⟨B + 1, 2, none⟩ (.slice a8 n8 c8)) hO8 fun g hg => Below.heap_setCell _ _ _ _ (by have := (own_block hO8 hg).1; show g ≠ B + 1; omega))
              have hs9 := hide (show B + 2 ≤ (w8.setCell ⟨B + 1, 2, none⟩ (.slice a8 n8 c8)).heap.size by rw [show (w8.setCell ⟨B + 1, 2, none⟩ (.slice a8 n8 c8)).heap.size = w8.heap.size by simp [World.setCell]]; have := hM8.out.lt; omega)
              clear hO8 hB8 hn8 hM8 hI3
              go_wp2_with (first
                | (refine wpList_load_mid rfl 57 (.tmp 7) rfl g 0 rfl (RW.rwl r) _ hrow Try.underlying57 rfl hps ?_)
                | (refine wpList_bs_rw rfl (.tmp 80) rfl r rfl ?_)
                | (at_builtin; refine wpList_app_run rfl (.tmp 79) (.tmp 81) rfl rfl rfl hrun ?_))
              go_roundw
              case rel => exact ⟨j + 1, _, by go_num, by have := hjmH.out; omega, by omega, hM9.out, by rw [hLl.out]; exact hO9.out, hs9.out⟩
              case measure => simp [intOf]; omega
            · have hLl := hide (show RW.mkL (xs.take (j + 1)) = l.map (RW.updR r) by rw [htk.out, RW.putR, if_pos hF2.out.symm])
              go_wp2
              go_roundw
              case rel => exact ⟨j + 1, _, by go_num, by have := hjmH.out; omega, by omega, hI2.out.st, by rw [hLl.out]; exact hI2.out.rows, hszi.out⟩
              case measure => simp [intOf]; omega
      · obtain rfl : j = 30 := by omega
        have hR2 := hide (show RwsO wo (B + 2) u (RW.mkA xs) by exact hR.out)
        obtain ⟨a9, c9, hv9⟩ := hR2.out.form
        obtain ⟨q9, hq9⟩ : ∃ q, q = (RW.mkA xs).length := ⟨_, rfl⟩
        rw [← hq9] at hv9
        subst hv9
        clear hq9 hR
        have g1 := hM.out.b1
        have g0 := hM.out.b0
        have hi : (Try.prog.info? 28).map (·.size) = some (bks z (.slice a9 q9 c9)).size := bk_size _ _
        have hone : (bks z (.slice a9 q9 c9)).all (·.oneCell') = true := by simp [bks]; exact ⟨rfl, rfl, rfl, rfl⟩
        go_wp2_with (first
          | (refine wpList_load_row rfl 28 (.tmp 5) rfl (B + 1) rfl 28 _ (0, 0) _ g1 Try.underlying28 rfl hi ?_)
          | (refine wpList_store_row rfl 28 (.tmp 4) (.tmp 84) rfl B (bks z (.slice a9 q9 c9)) rfl rfl 28 _ g0 hi rfl hone ?_))
        refine bodyPost_ret (results_cell_row rfl _ _ B 28 (bks z (.slice a9 q9 c9)) (0, 0) _ rfl (setRow_heap _ _ _ _ _ _ hM.out.b0) Try.underlying28 rfl hi) rfl ⟨.slice a9 q9 c9, rfl, ?_, ?_⟩
        · exact own_base (own_setRow hR2.out _ (by omega) _) (by omega)
        · exact belowSetRow hM.out.bel (Nat.le_refl _) _
    · obtain rfl : m = j := by omega
      have hR2 := hide (show RwsO wo (B + 2) u (RW.mkA xs) by have h1 := hR.out; rw [hmH.out] at h1; rw [RW.mkA, List.take_of_length_le (by rw [← hmH.out]; exact hj30), ← List.take_length (l := xs)]; exact h1)
      obtain ⟨a9, c9, hv9⟩ := hR2.out.form
      obtain ⟨q9, hq9⟩ : ∃ q, q = (RW.mkA xs).length := ⟨_, rfl⟩
      rw [← hq9] at hv9
      subst hv9
      clear hq9 hR
      have g1 := hM.out.b1
      have g0 := hM.out.b0
      have hi : (Try.prog.info? 28).map (·.size) = some (bks z (.slice a9 q9 c9)).size := bk_size _ _
      have hone : (bks z (.slice a9 q9 c9)).all (·.oneCell') = true := by simp [bks]; exact ⟨rfl, rfl, rfl, rfl⟩
      go_wp2_with (first
        | (refine wpList_load_row rfl 28 (.tmp 5) rfl (B + 1) rfl 28 _ (0, 0) _ g1 Try.underlying28 rfl hi ?_)
        | (refine wpList_store_row rfl 28 (.tmp 4) (.tmp 84) rfl B (bks z (.slice a9 q9 c9)) rfl rfl 28 _ g0 hi rfl hone ?_))
      refine bodyPost_ret (results_cell_row rfl _ _ B 28 (bks z (.slice a9 q9 c9)) (0, 0) _ rfl (setRow_heap _ _ _ _ _ _ hM.out.b0) Try.underlying28 rfl hi) rfl ⟨.slice a9 q9 c9, rfl, ?_, ?_⟩
      · exact own_base (own_setRow hR2.out _ (by omega) _) (by omega)
      · exact belowSetRow hM.out.bel (Nat.le_refl _) _
end Go.Proofs.Ytillplhadimgmaa

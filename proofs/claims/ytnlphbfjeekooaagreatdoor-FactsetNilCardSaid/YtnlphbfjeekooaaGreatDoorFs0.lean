/-
  Rows of strings of the call's own, what may change: no condition beyond each theorem's own premises.
-/
import Derived.Maps.AppendAt
import Derived.Test.YtnlphbfjeekooaaGreatDoorJsh
import Derived.Test.YtnlphbfjeekooaaGreatDoorOps
import Derived.Test.YtnlphbfjeekooaaGreatDoorMS
namespace Go.Proofs.YtnlphbfjeekooaaGreatDoor
open Go.RowKit RG
theorem alloc_at1 (w : World) (A : Obj) : (w.alloc A).heap[w.heap.size]? = some A := heap_alloc_new w A
theorem alloc_size (w : World) (A : Obj) : (w.alloc A).heap.size = w.heap.size + 1 := by simp
theorem alloc_bel {B : Nat} {w W : World} (h : Below B w W) (hB : B ≤ w.heap.size) (A : Obj) : Below B w (W.alloc A) := h.alloc (Nat.le_trans hB h.size) A
/-- a value that is a list of strings -/
abbrev StrR (W : World) (v : Value) (l : List ByteArray) : Prop := RowV 1 (fun s => [Value.string s]) W v l
theorem app_data (a b : ByteArray) : (a ++ b).data.toList = a.data.toList ++ b.data.toList := by simp [ByteArray.data_append]
theorem size_list (a : ByteArray) : a.data.toList.length = a.size := by rw [Array.length_toList]; rfl
/-- some blocks may change -/
structure ChgS (Q : Nat → Prop) (W W' : World) : Prop where
  os : W'.os = W.os
  tape : W'.tape = W.tape
  output : W'.output = W.output
  size : W.heap.size ≤ W'.heap.size
  block : ∀ k, k < W.heap.size → ¬ Q k → W'.heap[k]? = W.heap[k]?
theorem ChgS.refl (Q : Nat → Prop) (W : World) : ChgS Q W W := ⟨rfl, rfl, rfl, Nat.le_refl _, fun _ _ _ => rfl⟩
theorem ChgS.trans {Q : Nat → Prop} {W W' W'' : World} (h : ChgS Q W W') (g : ChgS Q W' W'') : ChgS Q W W'' :=
  ⟨g.os.trans h.os, g.tape.trans h.tape, g.output.trans h.output, Nat.le_trans h.size g.size, fun k hk h1 => (g.block k (Nat.lt_of_lt_of_le hk h.size) h1).trans (h.block k hk h1)⟩
theorem ChgS.set {Q : Nat → Prop} {b i : Nat} {W W' : World} (h : ChgS Q W W') (hb : Q b) (v : Value) : ChgS Q W (W'.setCell ⟨b, i, none⟩ v) :=
  h.trans ⟨rfl, rfl, rfl, by simp, fun k _ hk => Below.heap_setCell _ _ _ _ (fun e => hk (e ▸ hb))⟩
theorem ChgS.row {Q : Nat → Prop} {b : Nat} {W W' : World} (h : ChgS Q W W') (hb : Q b) (cs : Array Value) : ChgS Q W (W'.setRow b cs) :=
  h.trans ⟨rfl, rfl, rfl, by simp [World.setRow], fun k _ hk => setRow_else _ _ _ _ (fun e => hk (e ▸ hb))⟩
theorem ChgS.grown {Q : Nat → Prop} {W W' W'' : World} {g : Option Nat} (h : ChgS Q W W') (hg : W'.grownBy W'' g) (hq : ∀ k, g = some k → Q k) : ChgS Q W W'' :=
  h.trans ⟨hg.os, hg.tape, hg.output, hg.size, fun k hk hn => hg.block k hk fun e => hn (hq k e.symm)⟩
theorem blocks_ne {W : World} {i j : Nat} {c c' : Array Value} {t t' : TypeId} {f f' : Nat × Nat} (h1 : W.heap[i]? = some (.cells c t f)) (h2 : W.heap[j]? = some (.cells c' t' f')) (hne : t ≠ t') : i ≠ j := by
  rintro rfl
  rw [h1] at h2
  injection h2 with h2
  injection h2 with _ h2
  exact hne h2
theorem own_keep {W W' : World} {B : Nat} {e : TypeId} {k n : Nat} {v : Value} {xs : List Value} (h : W.ownsRow B e k v n xs) (hk : ∀ g, v.ownBlock = some g → W'.heap[g]? = W.heap[g]?) : W'.ownsRow B e k v n xs := by
  refine ⟨h.1, h.2.imp id ?_⟩
  rintro ⟨g, cap, cur, rfl, h2, h3, h4⟩
  exact ⟨g, cap, cur, rfl, h2, (hk g rfl).trans h3, h4⟩
theorem str_info : (Tryz.prog.info? 9).map (fun i => (i.zero, i.size, i.bytes)) = some (some (.string ⟨#[]⟩), 1, 16) := by kernel_rfl
/-- a row of strings of the call's own -/
abbrev StrsOwn (W : World) (B : Nat) (v : Value) (l : List ByteArray) : Prop := W.ownsRow B 9 1 v l.length (l.map Value.string)
theorem own_blk {W : World} {B : Nat} {e : TypeId} {k n : Nat} {v : Value} {xs : List Value} (h : W.ownsRow B e k v n xs) {g : Nat} (hg : v.ownBlock = some g) : B ≤ g ∧ g < W.heap.size ∧ ∃ c fr, W.heap[g]? = some (.cells c e fr) := by
  rcases h.2 with ⟨rfl, _⟩ | ⟨g', cap, cur, rfl, h2, h3, _⟩
  · cases hg
  · cases hg
    exact ⟨h2, (Array.getElem?_eq_some_iff.1 h3).1, cur, _, h3⟩
theorem own_shape {W : World} {B : Nat} {e : TypeId} {k n : Nat} {v : Value} {xs : List Value} (h : W.ownsRow B e k v n xs) : ∃ a c, v = .slice a n c := by
  rcases h.2 with ⟨rfl, h0⟩ | ⟨g, cap, cur, rfl, _⟩
  · exact ⟨none, 0, by rw [h0]⟩
  · exact ⟨_, _, rfl⟩
theorem run_app_str {W : World} {B : Nat} {v : Value} {l : List ByteArray} (r : ByteArray) (hown : StrsOwn W B v l) (hB : B ≤ W.heap.size) (hl : l.length ≤ 5000000) :
    ∃ v' W', (Builtin.append_ #[27, 27] 27 #[v, .slice (some ⟨W.heap.size, 0, none⟩) 1 1]).run Tryz.prog (W.alloc (.cells #[.string r] 9)) = .ok v' W' ∧ StrsOwn W' B v' (l ++ [r]) ∧ ChgS (fun j => v.ownBlock = some j) W W' ∧ (v'.ownBlock = v.ownBlock ∨ ∃ g, v'.ownBlock = some g ∧ W.heap.size ≤ g) := by
  obtain ⟨i0, hi, hz0, hz1, hz2⟩ := info_parts str_info
  have hA := alloc_bel (Below.refl W.heap.size W) (Nat.le_refl _) (.cells #[.string r] 9)
  have hg := alloc_at1 W (.cells #[.string r] 9)
  have h1 : StrsOwn (W.alloc (.cells #[.string r] 9)) B v l := own_keep hown fun g hg' => hA.block _ (own_blk hown hg').2.1
  obtain ⟨v', W', hr, ho, hgr, _, hb⟩ := run_append_own_at (P := Tryz.prog) (w := W.alloc (.cells #[.string r] 9)) B 27 27 9 i0 (.string ⟨#[]⟩) 1 16 Tryz.underlying27 hi hz0 hz1 hz2 (by rfl) (by decide) v l.length (l.map Value.string) h1 ⟨W.heap.size, 0, none⟩ 1 1 [.string r] rfl (fun j q hj => by
    have e := cellAt hg j
    rw [show (⟨W.heap.size, 0, none⟩ : Addr).add j = ⟨W.heap.size, j, none⟩ by rw [Addr.add_mid, Nat.zero_add], e]
    simpa using hj) (fun u hu => by simp at hu; subst hu; rfl) (by unfold maxLen; omega) (by omega) (Nat.le_trans hB hA.size)
  refine ⟨v', W', hr, by rw [StrsOwn, List.length_append, List.map_append]; exact ho, ⟨hgr.os, hgr.tape, hgr.output, Nat.le_trans hA.size hgr.size, fun k hk hn => (hgr.block k (Nat.lt_of_lt_of_le hk hA.size) fun e => hn e.symm).trans (hA.block k hk)⟩, hb.imp id fun h => ⟨_, h, by rw [alloc_size]; omega⟩⟩
theorem ChgS.belowJ {Q : Nat → Prop} {W W' : World} {B : Nat} (h : ChgS Q W W') (hQ : ∀ k, Q k → B ≤ k) (hB : B ≤ W.heap.size) : Below B W W' :=
  ⟨h.os, h.tape, h.output, h.size, fun k hk => h.block k (by omega) fun hq => absurd (hQ k hq) (by omega)⟩
theorem cell_of {W : World} {tb : Nat} {cs : Array Value} {T : TypeId} {i : Nat} {v : Value} (h : W.heap[tb]? = some (.cells cs T (0, 0))) (hi : cs[i]? = some v) : W.cell? ⟨tb, i, none⟩ = some v := (cellAt h i).trans hi
theorem unfrozen {W : World} {tb i : Nat} {cs : Array Value} {T : TypeId} (h : W.heap[tb]? = some (.cells cs T (0, 0))) : W.frozen? ⟨tb, i, none⟩ = false := by simp [World.frozen?, h]
theorem strs_own {W : World} {B : Nat} {v : Value} {l : List ByteArray} (h : StrsOwn W B v l) : StrR W v l := by
  have h' : W.ownsRow B 9 1 v l.length (rowCells (fun s => [Value.string s]) l) := by
    have e : rowCells (fun s => [Value.string s]) l = l.map Value.string := by
      unfold rowCells
      clear h
      induction l with
      | nil => rfl
      | cons x l ih => simp [List.flatMap_cons, ih]
    rw [e]
    exact h
  exact rowV_own (enc := fun s => [Value.string s]) (fun _ => rfl) (by decide) h'
/-- slices.Clone of a list of strings -/
theorem clone_any {W : World} {v : Value} {l : List ByteArray} (h : StrR W v l) (hl : l.length ≤ 5000000) : Calls Tryz.prog 51 #[v] W fun e w' => ∃ u, e = .returned u ∧ StrsOwn w' W.heap.size u l ∧ Below W.heap.size W w' := by
  obtain ⟨a, c, rfl, _, hr⟩ := h
  cases a with
  | none =>
    obtain rfl : l = [] := by
      rcases hr with e | ⟨b, o, e, _⟩
      · exact e
      · cases e
    refine (SH.slices_Clone_string_nil 0 c W).mono ?_
    rintro e w' ⟨rfl, rfl⟩
    exact ⟨_, rfl, ⟨rfl, .inl ⟨rfl, rfl⟩⟩, Below.refl _ _⟩
  | some ad =>
    rcases hr with rfl | ⟨b, o, e, _, hc⟩
    · refine (SH.slices_Clone_string_zero ad c W).mono ?_
      rintro e w' ⟨v', rfl, h1, _, h3⟩
      exact ⟨_, rfl, h1, h3⟩
    · cases e
      refine (SH.slices_Clone_string b o l.length c l W (Nat.le_refl _) (by omega) (fun j hj => ?_)).mono ?_
      · have e1 := hc j _ (List.getElem?_eq_getElem hj) 0 _ rfl
        rw [Nat.mul_one, Nat.add_zero] at e1
        rw [e1, List.getD_eq_getElem?_getD, List.getElem?_eq_getElem hj]
        rfl
      · rintro e w' ⟨v', rfl, h1, _, h3⟩
        rw [List.take_length] at h1
        exact ⟨_, rfl, h1, h3⟩
theorem own_mono {W : World} {B B' : Nat} {e : TypeId} {k n : Nat} {v : Value} {xs : List Value} (h : W.ownsRow B e k v n xs) (hb : B' ≤ B) : W.ownsRow B' e k v n xs := by
  refine ⟨h.1, h.2.imp id ?_⟩
  rintro ⟨g, cap, cur, h1, h2, h3, h4⟩
  exact ⟨g, cap, cur, h1, Nat.le_trans hb h2, h3, h4⟩
theorem app_size (a b : ByteArray) : (a ++ b).size = a.size + b.size := by rw [← size_list, app_data, List.length_append, size_list, size_list]
theorem cell_ltJ {W : World} {g i : Nat} {v : Value} (h : W.cell? ⟨g, i, none⟩ = some v) : g < W.heap.size := by
  refine Decidable.byContradiction fun hn => ?_
  simp [World.cell?, Array.getElem?_eq_none (Nat.le_of_not_lt hn)] at h
theorem strR_cell {W W' : World} {v : Value} {l : List ByteArray} {j : Nat} {r : ByteArray} (h : StrR W v l) (hr : l[j]? = some r) : ∃ g o c, v = .slice (some ⟨g, o, none⟩) l.length c ∧ ∀ W', Below W.heap.size W W' → W'.cell? ⟨g, o + j, none⟩ = some (.string r) := by
  obtain ⟨a, c, rfl, _, hc⟩ := h
  rcases hc with rfl | ⟨g, o, rfl, hb, hc⟩
  · simp at hr
  · refine ⟨g, o, c, rfl, fun W' hB => ?_⟩
    have e := hc j r hr 0 _ rfl
    rw [Nat.mul_one, Nat.add_zero] at e
    exact (World.cell?_of_block (a := ⟨g, o + j, none⟩) (hB.block _ hb)).trans e
theorem row_cap {α : Type} {k : Nat} {enc : α → List Value} {W : World} {a : Option Addr} {n c : Nat} {l : List α} (h : RowV k enc W (.slice a n c) l) : n ≤ c := by
  obtain ⟨a', c', e, hc, _⟩ := h
  injection e with e1 e2 e3
  omega
theorem strs_nil (W : World) (B : Nat) : StrsOwn W B (.slice none 0 0) [] := ⟨rfl, .inl ⟨rfl, rfl⟩⟩
theorem strs_first {W : World} {a : Option Addr} {n c m : Nat} {l : List ByteArray} (h : StrR W (.slice a n c) l) (hm : m ≤ l.length) : StrR W (.slice a m c) (l.take m) := RowV.first h m hm
namespace RW
theorem take_snocB {l : List ByteArray} {j : Nat} {x : ByteArray} (h : l[j]? = some x) : l.take (j + 1) = l.take j ++ [x] := by
  rw [List.take_add_one, h]
  rfl
theorem bytes_eq {a b : ByteArray} (h : a.data.toList = b.data.toList) : a = b := by
  cases a
  cases b
  simp only at h
  rw [Array.toList_inj.1 h]
end RW
section
variable {ev : Operand → Value} {o : Oper} {x y : Operand} {w : World}
theorem op_idx_s {b ao i n c : Nat} (ho : o.op = .indexAddr 27 x y) (hx : ev x = .slice (some ⟨b, ao, none⟩) n c) (hy : ev y = .int .i64 i) (hi : i < n) : (execOp ev o).run Tryz.prog w = .ok (.value (.pointer (some ⟨b, ao + i, none⟩))) w := by
  unfold execOp
  rw [ho]
  simp only [hx, hy]
  go_simp
theorem op_neqs {a b : ByteArray} (ho : o.op = .binOp .neq 9 x y 9) (hx : ev x = .string a) (hy : ev y = .string b) {r : Bool} (h : r = !decide (a = b)) : (execOp ev o).run Tryz.prog w = .ok (.value (.bool r)) w := by
  have h2 : (a.toList == b.toList) = decide (a = b) := by
    by_cases e : a = b
    · subst e
      simp
    · rw [decide_eq_false e, beq_eq_false_iff_ne, ByteArray.toList_eq, ByteArray.toList_eq]
      exact fun e' => e (RW.bytes_eq e')
  subst h
  unfold execOp
  rw [ho]
  simp only [hx, hy]
  go_simp
end
theorem str_ld {W : World} {g i : Nat} {s : ByteArray} (h : W.cell? ⟨g, i, none⟩ = some (.string s)) : (ldRow 9 (.pointer (some ⟨g, i, none⟩))).run Tryz.prog W = .ok (.string s) W := by
  unfold ldRow
  go_simp
end Go.Proofs.YtnlphbfjeekooaaGreatDoor

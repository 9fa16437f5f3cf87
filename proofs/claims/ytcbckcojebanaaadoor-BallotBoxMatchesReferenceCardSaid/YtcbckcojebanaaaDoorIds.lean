/-
  Package royaltylaw25: ids and few: what they return; only new memory is written.
-/
import Derived.Test.YtcbckcojebanaaaDoorClip
import Derived.Test.YtcbckcojebanaaaDoorBMsg
namespace Go.Proofs.YtcbckcojebanaaaDoor
open Go.RowKit RG
namespace RW
/-- a list of IDs that is strictly ascending -/
def Asc (L : List ByteArray) : Prop := (∀ s ∈ L, s.size = 32) ∧ L.Pairwise fun s t => Op.bytesLess s.data.toList t.data.toList = true
theorem Asc.nil : Asc [] := ⟨by simp, List.Pairwise.nil⟩
theorem ascTo_of : ∀ (L : List ByteArray) (p : Option (List UInt8)), (∀ s ∈ L, s.size = 32) → (L.Pairwise fun s t => Op.bytesLess s.data.toList t.data.toList = true) → (∀ q, p = some q → ∀ s ∈ L, Op.bytesLess q s.data.toList = true) → ascTo p (bl L) = true
  | [], p, _, _, _ => by cases p <;> rfl
  | s :: L, p, h1, h2, h3 => by
    rw [List.pairwise_cons] at h2
    have hs : s.data.toList.length = 32 := h1 s List.mem_cons_self
    have ih := ascTo_of L (some s.data.toList) (fun t ht => h1 t (List.mem_cons_of_mem _ ht)) h2.2 (fun q hq t ht => by cases hq; exact h2.1 t ht)
    cases p with
    | none =>
      show ((s.data.toList.length == 32) && ascTo (some s.data.toList) (bl L)) = true
      rw [ih, hs]; rfl
    | some q =>
      have hq := h3 q rfl s List.mem_cons_self
      have h4 : Op.bytesLess s.data.toList q = false := by
        cases h : Op.bytesLess s.data.toList q with
        | false => rfl
        | true => have := bl_trans _ _ _ hq h; rw [bl_irrefl] at this; cases this
      have h5 : (s.data.toList == q) = false := by
        rw [beq_eq_false_iff_ne]
        intro e
        rw [e, bl_irrefl] at hq
        cases hq
      show (((s.data.toList.length == 32) && !(Op.bytesLess s.data.toList q || s.data.toList == q)) && ascTo (some s.data.toList) (bl L)) = true
      rw [ih, hs, h4, h5]; rfl
theorem Asc.asc {L : List ByteArray} (h : Asc L) (hl : L.length ≤ 4000) : asc (bl L) = true := by
  unfold RW.asc
  rw [ascTo_of L none h.1 h.2 (fun q hq => by cases hq)]
  have : (bl L).length = L.length := List.length_map ..
  simp [this, hl]
theorem Asc.insert {L : List ByteArray} (h : Asc L) (D : ByteArray) (hD : D.size = 32) (k : Nat) (h1 : ∀ i s, i < k → L[i]? = some s → Op.bytesLess s.data.toList D.data.toList = true)
    (h2 : ∀ s, L[k]? = some s → Op.bytesLess D.data.toList s.data.toList = true) : Asc (L.take k ++ (D :: L.drop k)) := by
  have e : L = L.take k ++ L.drop k := (List.take_append_drop k L).symm
  obtain ⟨ha, hp⟩ := h
  rw [e, List.pairwise_append] at hp
  obtain ⟨p1, p2, p3⟩ := hp
  refine ⟨fun s hs => ?_, ?_⟩
  · rcases List.mem_append.1 hs with hs | hs
    · exact ha s (List.mem_of_mem_take hs)
    · rcases List.mem_cons.1 hs with rfl | hs
      · exact hD
      · exact ha s (List.mem_of_mem_drop hs)
  · have hl : ∀ s ∈ L.take k, Op.bytesLess s.data.toList D.data.toList = true := fun s hs => by
      obtain ⟨i, hi⟩ := List.getElem?_of_mem hs
      rw [List.getElem?_take] at hi
      split at hi
      · rename_i hik; exact h1 i s hik hi
      · cases hi
    have hr : ∀ s ∈ L.drop k, Op.bytesLess D.data.toList s.data.toList = true := fun s hs => by
      cases hd : L.drop k with
      | nil => rw [hd] at hs; cases hs
      | cons x l =>
        have hx : L[k]? = some x := by
          have := congrArg (·[0]?) hd
          simpa using this
        rw [hd] at hs p2
        rcases List.mem_cons.1 hs with rfl | hs
        · exact h2 _ hx
        · exact bl_trans _ _ _ (h2 _ hx) ((List.pairwise_cons.1 p2).1 _ hs)
    rw [List.pairwise_append]
    refine ⟨p1, List.pairwise_cons.2 ⟨hr, p2⟩, fun a ha b hb => ?_⟩
    rcases List.mem_cons.1 hb with rfl | hb
    · exact hl a ha
    · exact p3 a ha b hb
end RW
abbrev StO (W : World) (B : Nat) (v : Value) (L : List ByteArray) : Prop := W.ownsRow B 9 1 v L.length (rowCells encS L)
theorem StO.row {W : World} {B : Nat} {v : Value} {L : List ByteArray} (h : StO W B v L) : RowV 1 encS W v L := rowV_own (B := B) (e := 9) (n := L.length) (enc := encS) (fun _ => rfl) (by decide) h
theorem StO.nil (W : World) (B : Nat) : StO W B (.slice none 0 0) [] := ⟨rfl, .inl ⟨rfl, rfl⟩⟩
theorem StO.next {W W' : World} {B : Nat} {v : Value} {L : List ByteArray} (h : StO W B v L) (hB : Below W.heap.size W W') : StO W' B v L := own_keep h fun _ hg => hB.block _ (own_block h hg).2.1
theorem StO.form {W : World} {B : Nat} {v : Value} {L : List ByteArray} (h : StO W B v L) : (v = .slice none 0 0 ∧ L = []) ∨ ∃ g c, v = .slice (some ⟨g, 0, none⟩) L.length c ∧ L.length ≤ c ∧ B ≤ g := by
  rcases h.2 with ⟨rfl, h0⟩ | ⟨g, cap, cur, rfl, h1, _, h2, _⟩
  · exact .inl ⟨rfl, List.length_eq_zero_iff.1 h0⟩
  · exact .inr ⟨g, cap, rfl, h2, h1⟩
theorem str_one : ∀ x : ByteArray, ∀ u ∈ encS x, u.oneCell' = true := by
  intro x u hu
  rw [List.mem_singleton] at hu
  subst hu
  rfl
theorem StO.app {W : World} {B : Nat} {v y : Value} {L m : List ByteArray} (h : StO W B v L) (hy : RowV 1 encS W y m) (hl : L.length ≤ 1000000) (hm : m.length ≤ 1000000) (hB : B ≤ W.heap.size) :
    ∃ v' W', (Builtin.append_ #[22, 22] 22 #[v, y]).run Tryd.prog W = .ok v' W' ∧ StO W' B v' (L ++ m) ∧ Below B W W' := by
  obtain ⟨v', W', h1, h2, h3, _⟩ := run_app_rows (P := Tryd.prog) (enc := encS) 22 Tryd.underlying22 info_str (by rfl) (by decide) (fun _ => rfl) str_one h hB hy (by unfold maxLen; omega) (by omega)
  exact ⟨v', W', h1, h2, h3⟩
theorem StO.app1 {W : World} {B : Nat} {v : Value} {L : List ByteArray} (h : StO W B v L) (x : ByteArray) (hl : L.length ≤ 1000000) (hB : B ≤ W.heap.size) :
    ∃ v' W', (Builtin.append_ #[22, 22] 22 #[v, .slice (some ⟨W.heap.size, 0, none⟩) 1 1]).run Tryd.prog (W.alloc (.cells #[.string x] 9)) = .ok v' W' ∧ StO W' B v' (L ++ [x]) ∧ Below B W W' := by
  have hA := alloc_bel (Below.refl W.heap.size W) (Nat.le_refl _) (.cells #[.string x] 9)
  have hlit : RowV 1 encS (W.alloc (.cells (rowCells encS [x]).toArray 9)) (.slice (some ⟨W.heap.size, 0, none⟩) 1 1) [x] := rows_lit (k := 1) (enc := encS) W 9 (fun _ => rfl) [x]
  obtain ⟨v', W', g1, g2, g3⟩ := (h.next hA).app (y := .slice (some ⟨W.heap.size, 0, none⟩) 1 1) (m := [x]) hlit hl (by simp) (Nat.le_trans hB hA.size)
  exact ⟨v', W', g1, g2, (hA.mono hB).trans g3⟩
section
variable {ev : Operand → Value} {o : Oper} {x y z : Operand} {w : World}
theorem op_cut3 {g n c i : Nat} (ho : o.op = .slice 22 x none (some y) (some z)) (hx : ev x = .slice (some ⟨g, 0, none⟩) n c) (hy : ev y = .int .i64 i) (hz : ev z = .int .i64 i) (hi : i ≤ n) (hn : n ≤ c) : (execOp ev o).run Tryd.prog w = .ok (.value (.slice (some ⟨g, 0, none⟩) i i)) w := by
  have h1 : i ≤ c := Nat.le_trans hi hn
  have h2 : ¬ c < i := by omega
  unfold execOp
  rw [ho]
  go_simp
theorem op_cut3n (ho : o.op = .slice 22 x none (some y) (some z)) (hx : ev x = .slice none 0 0) (hy : ev y = .int .i64 0) (hz : ev z = .int .i64 0) : (execOp ev o).run Tryd.prog w = .ok (.value (.slice none 0 0)) w := by
  unfold execOp
  rw [ho]
  go_simp
theorem op_lo_s {g n c i : Nat} (ho : o.op = .slice 22 x (some y) none none) (hx : ev x = .slice (some ⟨g, 0, none⟩) n c) (hy : ev y = .int .i64 i) (hi : i ≤ n) : (execOp ev o).run Tryd.prog w = .ok (.value (.slice (if c = i then some ⟨g, 0, none⟩ else some ⟨g, i, none⟩) (n - i) (c - i))) w := by
  unfold execOp
  rw [ho]
  go_simp
theorem op_lo_sn (ho : o.op = .slice 22 x (some y) none none) (hx : ev x = .slice none 0 0) (hy : ev y = .int .i64 0) : (execOp ev o).run Tryd.prog w = .ok (.value (.slice none 0 0)) w := by
  unfold execOp
  rw [ho]
  go_simp
end
/-- the two cuts of a list of strings, as operations and as lists -/
theorem str_parts {W0 : World} {B : Nat} {v : Value} {L : List ByteArray} {k : Nat} (h : StO W0 B v L) (hk : k ≤ L.length) : ∃ vlo a,
    (∀ (ev : Operand → Value) (o : Oper) (x y : Operand) (w : World), o.op = .slice 22 x (some y) none none → ev x = v → ev y = .int .i64 k → (execOp ev o).run Tryd.prog w = .ok (.value vlo) w) ∧
    (∀ (ev : Operand → Value) (o : Oper) (x y z : Operand) (w : World), o.op = .slice 22 x none (some y) (some z) → ev x = v → ev y = .int .i64 k → ev z = .int .i64 k → (execOp ev o).run Tryd.prog w = .ok (.value (.slice a (L.take k).length k)) w) ∧
    ∀ W, RowV 1 encS W v L → RowV 1 encS W vlo (L.drop k) ∧ RowV 1 encS W (.slice a (L.take k).length k) (L.take k) := by
  have hkt : (L.take k).length = k := by rw [List.length_take]; omega
  rw [hkt]
  rcases h.form with ⟨rfl, rfl⟩ | ⟨g, cap, rfl, hn, _⟩
  · obtain rfl : k = 0 := by simpa using hk
    exact ⟨.slice none 0 0, none, fun ev o x y w ho hx hy => op_lo_sn ho hx hy, fun ev o x y z w ho hx hy hz => op_cut3n ho hx hy hz, fun W hW => ⟨hW, hW⟩⟩
  · refine ⟨_, _, fun ev o x y w ho hx hy => op_lo_s ho hx hy hk, fun ev o x y z w ho hx hy hz => op_cut3 ho hx hy hz hk hn, fun W hW => ⟨?_, ?_⟩⟩
    · have h1 := hW.sub k L.length hk (Nat.le_refl _)
      rw [List.take_of_length_le (Nat.le_refl _)] at h1
      by_cases hc : cap = k
      · have h2 : L.length = k := by omega
        rw [if_pos hc, show L.drop k = [] by rw [List.drop_eq_nil_iff]; omega]
        exact ⟨some ⟨g, 0, none⟩, cap - k, by rw [h2]; simp, by simp, .inl rfl⟩
      · rw [if_neg hc]
        simpa using h1
    · obtain ⟨a', c', e, _, ha⟩ := hW
      injection e with e1 e2 e3
      subst e1
      refine ⟨_, _, by rw [hkt], by rw [hkt]; exact Nat.le_refl _, ?_⟩
      rcases ha with rfl | ⟨b, o, hab, hb, hr⟩
      · left; simp
      · refine .inr ⟨b, o, hab, hb, fun i x hx => ?_⟩
        rw [List.getElem?_take] at hx
        split at hx
        · exact hr i x hx
        · cases hx
end Go.Proofs.YtcbckcojebanaaaDoor

/-
  Ballot: a proposal made of a list of IDs; what single operations do: no condition beyond each theorem's own premises.
-/
import Derived.Test.YtcbckcojebanaaaDoorBrtP
import Derived.Test.YtcbckcojebanaaaDoorBoH
namespace Go.Proofs.YtcbckcojebanaaaDoor
open Go.RowKit RG
namespace RW
/-- a proposal's numbers -/
def pn (a b c : Int) : Nat → Int := fun i => match i with | 0 => 3 | 1 => 1 | 2 => 3 | 3 => a | 4 => 1 + b | 5 => c - 1 | _ => 0
/-- the value of a list of IDs, and its digest -/
def vlA (L : List ByteArray) : ByteArray := ⟨(valL (bl L)).toArray⟩
def shA (K : Nat → Int) (L : List ByteArray) : ByteArray := ⟨(sha K (valL (bl L))).toArray⟩
theorem pn_ok (K : Nat → Int) {a b c : Int} {L : List ByteArray} (h : Asc L) (hl : L.length ≤ 20) (ha : 0 ≤ a ∧ a < 5) (hb : 0 ≤ b ∧ b < 9) (hc : 0 ≤ c ∧ c < 2) : msgB K (pn a b c) (shA K L).data.toList (bl L) = true := by
  have e : (shA K L).data.toList = sha K (valL (bl L)) := by unfold shA; simp
  have h1 := h.asc (by omega)
  rw [e, msgB_k3 (by refine ⟨?_, ?_, ?_⟩ <;> simp [pn, site]) rfl, h1]
  have h2 : placedB (pn a b c) = true := by unfold placedB; rw [decide_eq_true_eq]; show 0 ≤ a ∧ a < 1200 ∧ 0 ≤ 1 + b ∧ 1 + b < 100; omega
  have h3 : decide (-1 ≤ pn a b c 5 ∧ pn a b c 5 < pn a b c 4) = true := by rw [decide_eq_true_eq]; show -1 ≤ c - 1 ∧ c - 1 < 1 + b; omega
  rw [h2, h3]
  simp
theorem vlA_size {L : List ByteArray} (h : Asc L) (hl : L.length ≤ 20) : (vlA L).size ≤ 1000 := by
  obtain ⟨_, _, h3⟩ := asc_lims (h.asc (by omega))
  have h4 := flat_len 32 (bl L) (fun s hs => Nat.le_of_eq (h3 s hs))
  have h5 := putI_len ((bl L).length : Int)
  have e : (bl L).length = L.length := List.length_map ..
  show (valL (bl L)).toArray.size ≤ 1000
  rw [List.size_toArray]
  unfold valL
  rw [List.length_append]
  omega
theorem vlA_same {L M : List ByteArray} (hL : Asc L) (hM : Asc M) (lL : L.length ≤ 20) (lM : M.length ≤ 20) : ((vlA L).toList == (vlA M).toList) = decide (L = M) := by
  by_cases h : L = M
  · rw [h]; simp
  · rw [decide_eq_false h]
    refine bytes_ne (s := vlA L) (t := vlA M) fun e => h (valL_inj hL hM lL lM ?_)
    have := congrArg (fun x : ByteArray => x.data.toList) e
    simpa [vlA] using this
theorem noM_bad (K : Nat → Int) : msgB K (fun _ => 0) (⟨#[]⟩ : ByteArray).data.toList (bl []) = false := msgB_far (by simp [site])
theorem emp_iff (s : ByteArray) : s.toList.isEmpty = decide (s.size = 0) := by
  rw [ByteArray.toList_eq]
  cases s with
  | mk d => cases d with
    | mk l => cases l with
      | nil => rfl
      | cons a l => rfl
theorem app_emp {s x : ByteArray} (h : x.size = 0) : s ++ x = s := by
  have hx : x.data = #[] := Array.eq_empty_of_size_eq_zero h
  apply ByteArray.ext
  rw [ByteArray.data_append, hx, Array.append_empty]
/-- how far two lists have been found to agree -/
def agr (L M : List ByteArray) (j : Nat) : Bool := decide (L.length = M.length ∧ ∀ i, i < j → L[i]? = M[i]?)
theorem agr_zero (L M : List ByteArray) : agr L M 0 = ((L.length : Int) == (M.length : Int)) := by
  unfold agr
  by_cases h : L.length = M.length
  · rw [h]; simp
  · have h2 : (L.length : Int) ≠ (M.length : Int) := by omega
    rw [decide_eq_false (fun g => h g.1), beq_eq_false_iff_ne.2 h2]
theorem agr_step {L M : List ByteArray} {j : Nat} {x y : ByteArray} (h : agr L M j = true) (hx : L[j]? = some x) (hy : M[j]? = some y) : agr L M (j + 1) = (x.toList == y.toList) := by
  obtain ⟨h1, h2⟩ := of_decide_eq_true h
  by_cases e : x = y
  · subst e
    rw [show (x.toList == x.toList) = true by simp]
    refine decide_eq_true ⟨h1, fun i hi => ?_⟩
    rcases Nat.lt_succ_iff_lt_or_eq.1 hi with h | h
    · exact h2 i h
    · rw [h, hx, hy]
  · rw [bytes_ne e]
    refine decide_eq_false fun g => e ?_
    have := g.2 j (Nat.lt_succ_self _)
    rw [hx, hy] at this
    exact Option.some.inj this
theorem agr_end {L M : List ByteArray} {j : Nat} (h : agr L M j = false ∨ L.length ≤ j) : agr L M j = decide (L = M) := by
  rcases h with h | h
  · rw [h]
    symm
    refine decide_eq_false fun e => ?_
    unfold agr at h
    rw [e] at h
    simp at h
  · by_cases e : L = M
    · rw [decide_eq_true e]
      refine decide_eq_true ⟨by rw [e], fun i _ => by rw [e]⟩
    · rw [decide_eq_false e]
      refine decide_eq_false fun g => e (List.ext_getElem? fun i => ?_)
      by_cases hi : i < j
      · exact g.2 i hi
      · rw [List.getElem?_eq_none (by omega), List.getElem?_eq_none (by have := g.1; omega)]
end RW
theorem ids_form (v : Value) (O : List Int) (hO : ∀ x ∈ O, RW.i64b x) (hOl : O.length ≤ 9223372036854775807) (w : World) (hv : RowV 1 encI w v O) :
    Calls Tryd.prog 25 #[v] w fun e w' => (∃ a c, ∃ L : List ByteArray, e = .returned (.slice a L.length c) ∧ StrsV w' (.slice a L.length c) L ∧ RW.Asc L ∧ L.length ≤ 20) ∧ Below w.heap.size w w' := by
  refine (ids_any v O hO hOl w hv).mono ?_
  rintro e w' ⟨⟨u, L, rfl, hO1, hA, hl⟩, hB⟩
  have h1 := strsV_row hO1.row
  obtain ⟨a, c, rfl, h2⟩ := h1
  exact ⟨⟨a, c, L, rfl, ⟨a, c, rfl, h2⟩, hA, hl⟩, hB⟩
theorem value_asc {v : Value} {l : List ByteArray} {w : World} (h : StrsV w v l) (ha : RW.Asc l) (hl : l.length ≤ 20) :
    Calls Tryd.prog 26 #[v] w fun e w' => e = .returned (.tuple #[.string (RW.vlA l), .int .i64 0]) ∧ Below w.heap.size w w' := value_good h (by omega) (ha.asc (by omega))
section
variable {ev : Operand → Value} {o : Oper} {x y : Operand} {w : World}
theorem op_x1 {D : Value → World → Prop} {k : Nat} {ts : Array TypeId} {a : Value} (ho : o.op = .call ⟨.value (.func k), #[x], ts⟩) (hf : ev (.func k) = .func (.func k) #[] #[]) (h1 : ev x = a) (hk : ∀ args w, (callFunc k args).run Tryd.prog w = .ok (.enter k args) w)
    (h : Calls Tryd.prog k #[a] w fun e w'' => ∃ u, e = .returned u ∧ D u w'') : XUp Tryd.prog D ((execOp ev o).run Tryd.prog w) := by
  have h1 : (execOp ev o).run Tryd.prog w = .ok (.enter k #[a]) w := by
    unfold execOp
    rw [ho]
    go_simp
  rw [h1]
  exact h
theorem op_bs_m2 {cx cy : Array Value} {n n2 : Nat → Int} {d d2 : ByteArray} {v v2 : Value} (ho : o.op = .buildSlice 43 2 #[(0, x), (1, y)]) (hx : ev x = .agg cx) (hy : ev y = .agg cy) (ex : cx = RW.mcells n d v) (ey : cy = RW.mcells n2 d2 v2) :
    (execOp ev o).run Tryd.prog w = .ok (.value (.slice (some ⟨w.heap.size, 0, none⟩) 2 2)) (w.alloc (.cells (cx.toList ++ cy.toList).toArray 24)) := by
  subst ex ey
  unfold execOp
  rw [ho]
  unfold RW.mcells at hx hy ⊢
  go_simp
theorem op_len_m {a : Option Addr} {n c : Nat} (ho : o.op = .call { callee := .builtin .len, args := #[x], argTypes := #[43] }) (hx : ev x = .slice a n c) : (execOp ev o).run Tryd.prog w = .ok (.value (.int .i64 n)) w := by
  unfold execOp
  rw [ho]
  go_simp
end
theorem MS.ld {l : List (Nat × Array Value)} {ss : List (Value × List ByteArray)} {w W : World} (h : MS l ss w W) {b : Nat} {cs : Array Value} (hx : (b, cs) ∈ l) (hz : (Tryd.prog.info? 24).map (·.size) = some cs.size) : (ldMsg 24 (.pointer (some ⟨b, 0, none⟩))).run Tryd.prog W = .ok (.agg cs) W :=
  ldMsg_eq _ _ _ _ _ _ _ (h.rows.rows (b, cs) hx) Tryd.underlying24 rfl hz
theorem cf_few : ∀ args w, (callFunc 11 args).run Tryd.prog w = .ok (.enter 11 args) w := fun args w => by go_simp
theorem two_range {W : World} {g : Nat} {A C : List Value} (h : W.heap[g]? = some (.cells (A ++ C).toArray 24 (0, 0))) (hA : A.length = 8) : W.rangeAt g (0 * 8) A ∧ W.rangeAt g (1 * 8) C := by
  refine ⟨fun j u hj => ?_, fun j u hj => ?_⟩
  · have hl := (List.getElem?_eq_some_iff.1 hj).1
    rw [cell_at h, List.getElem?_toArray, Nat.zero_mul, Nat.zero_add, List.getElem?_append_left hl]
    exact hj
  · rw [cell_at h, List.getElem?_toArray, Nat.one_mul, List.getElem?_append_right (by omega), hA, Nat.add_sub_cancel_left]
    exact hj
theorem encRes_yes {K : Nat → Int} {y : RW.Min} (h : RW.msgB K y.n y.d.data.toList (RW.bl y.l) = true) : encRes K y.n y.d y.l = .tuple #[.string (RW.encA y), .int .i64 0] := by unfold encRes; rw [h]; rfl
theorem encRes_no {K : Nat → Int} {y : RW.Min} (h : RW.msgB K y.n y.d.data.toList (RW.bl y.l) = false) : encRes K y.n y.d y.l = .tuple #[.string ⟨#[]⟩, .int .i64 250] := by unfold encRes; rw [h]; rfl
/-- with a text behind it that may be empty -/
theorem dec_with {K : Nat → Int} {ks : Array Value} (hks : RW.WsOk ks K) {y : RW.Min} (hm : RW.msgB K y.n y.d.data.toList (RW.bl y.l) = true) {x : ByteArray} (hx2 : x.size ≤ 20) {w : World} (hK : KLaid w ks) (q : Bool) (hq : q = decide (x.size = 0)) :
    Calls Tryd.prog 23 #[.string (RW.encA y ++ x)] w fun e w' => (∃ g d v, ∃ er : Int, e = .returned (.tuple #[.agg (RW.mcells g d v), .int .i64 er]) ∧ v.oneCell' = true ∧ (er == 0) = q) ∧ Below w.heap.size w w' := by
  cases q
  · have h0 := of_decide_eq_false hq.symm
    refine (dec_more hks hm (x := x) (by omega) hx2 hK).mono ?_
    rintro e w' ⟨rfl, hB⟩
    exact ⟨⟨_, _, _, 10, rfl, rfl, rfl⟩, hB⟩
  · have h0 := of_decide_eq_true hq.symm
    rw [RW.app_emp h0]
    refine (dec_back hks hm hK).mono ?_
    rintro e w' ⟨⟨g, v, rfl, _, hv⟩, hB⟩
    exact ⟨⟨g, y.d, v, 0, rfl, hv.one, rfl⟩, hB⟩
/-- whatever is decoded: a valid message whose encoding it is, or none -/
theorem dec_all {K : Nat → Int} {ks : Array Value} (hks : RW.WsOk ks K) {s : ByteArray} (hs : s.size ≤ 9223372036854775807) {w : World} (hK : KLaid w ks) :
    Calls Tryd.prog 23 #[.string s] w fun e w' => (∃ y : RW.Min, ∃ er : Int, e = .returned (.tuple #[.agg (RW.mcells y.n y.d y.v), .int .i64 er]) ∧ StrsV w' y.v y.l ∧ y.l.length ≤ 4000 ∧ (∀ t ∈ y.l, t.size ≤ 65536) ∧
      ((er = 0 ∧ RW.msgB K y.n y.d.data.toList (RW.bl y.l) = true ∧ RW.encA y = s) ∨ ((er == 0) = false ∧ (er != 0) = true ∧ y.v = .slice none 0 0))) ∧ Below w.heap.size w w' := by
  refine (decode_any s hs w K ks hks hK).mono ?_
  rintro e w' ⟨hO, hB⟩
  refine ⟨?_, hB⟩
  unfold DecOut at hO
  cases hd : RW.decM K s.data.toList with
  | wire =>
    rw [hd] at hO
    exact ⟨⟨fun _ => 0, ⟨#[]⟩, .slice none 0 0, []⟩, 10, hO, StrsV.nil _, Nat.zero_le _, by simp, .inr ⟨rfl, rfl, rfl⟩⟩
  | bad =>
    rw [hd] at hO
    exact ⟨⟨fun _ => 0, ⟨#[]⟩, .slice none 0 0, []⟩, 250, hO, StrsV.nil _, Nat.zero_le _, by simp, .inr ⟨rfl, rfl, rfl⟩⟩
  | msg g d t =>
    rw [hd] at hO
    obtain ⟨v, rfl, hv⟩ := hO
    obtain ⟨h1, h2, h3, h4⟩ := RW.decM_take K _ _ _ _ hd
    have hlen := (RW.msgB_lims K g d t h2).2
    have e1 : (⟨d.toArray⟩ : ByteArray).data.toList = d := by simp
    have e2 : RW.bl (t.map fun x => (⟨x.toArray⟩ : ByteArray)) = t := bl_of t
    refine ⟨⟨g, ⟨d.toArray⟩, v, t.map fun x => ⟨x.toArray⟩⟩, 0, rfl, hv, by rw [List.length_map]; exact hlen, fun u hu => ?_, .inl ⟨rfl, ?_, ?_⟩⟩
    · obtain ⟨x, hx, rfl⟩ := List.mem_map.1 hu
      exact Nat.le_trans (Nat.le_of_eq (show x.toArray.size = x.length by simp)) (h4 x hx)
    · show RW.msgB K g (⟨d.toArray⟩ : ByteArray).data.toList (RW.bl _) = true
      rw [e1, e2]; exact h2
    · unfold RW.encA
      show (⟨(RW.encM g (⟨d.toArray⟩ : ByteArray).data.toList (RW.bl _)).toArray⟩ : ByteArray) = s
      rw [e1, e2, ← h1]
theorem encRes_parts (K : Nat → Int) (y : RW.Min) : ∃ (T : ByteArray) (ef : Int), encRes K y.n y.d y.l = .tuple #[.string T, .int .i64 ef] ∧ (RW.msgB K y.n y.d.data.toList (RW.bl y.l) = true → T = RW.encA y ∧ ef = 0) := by
  cases hm : RW.msgB K y.n y.d.data.toList (RW.bl y.l)
  · exact ⟨_, _, encRes_no hm, fun h => by cases h⟩
  · exact ⟨_, _, encRes_yes hm, fun _ => ⟨rfl, rfl⟩⟩
end Go.Proofs.YtcbckcojebanaaaDoor

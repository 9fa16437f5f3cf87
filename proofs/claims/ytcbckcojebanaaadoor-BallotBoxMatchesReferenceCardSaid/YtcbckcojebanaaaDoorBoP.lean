/-
  Ballot, the plain side of orders: votes put into a box one after the other; what the order has to do with it: no program in sight.
-/
import Derived.Test.YtcbckcojebanaaaDoorBowP
namespace Go.Proofs.YtcbckcojebanaaaDoor.RW
open Go Go.RowKit
/-- a vote: six numbers and a digest -/
abbrev Mv := (Nat → Int) × ByteArray
def okV (K : Nat → Int) (N : Int) (x : Mv) : Bool := voteOk K N x.1 x.2.data.toList []
def addV (K : Nat → Int) (N : Int) (L : List (Vk × ByteArray)) (x : Mv) : List (Vk × ByteArray) := addL (okV K N x) (vk x.1) x.2 L
/-- what a box holds behind a list of votes -/
def boxV (K : Nat → Int) (N : Int) (l : List Mv) : List (Vk × ByteArray) := l.foldl (addV K N) []
theorem boxV_snoc (K : Nat → Int) (N : Int) (l : List Mv) (x : Mv) : boxV K N (l ++ [x]) = addV K N (boxV K N l) x := by
  unfold boxV
  rw [List.foldl_append]
  rfl
/-- the first of the votes under a key -/
def firstV (K : Nat → Int) (N : Int) (l : List Mv) (k : Vk) : Option ByteArray := (l.find? fun x => okV K N x && decide (vk x.1 = k)).map (·.2)
theorem hasK_vote (k : Vk) (L : List (Vk × ByteArray)) : hasK k L = (voteAt L k).isSome := by
  induction L with
  | nil => rfl
  | cons x L ih =>
    unfold hasK voteAt at *
    rw [List.any_cons, List.find?_cons]
    by_cases h : x.1 = k
    · simp [h]
    · simp only [h, decide_false, Bool.false_or]; exact ih
theorem voteAt_snoc (L : List (Vk × ByteArray)) (k k' : Vk) (d : ByteArray) : voteAt (L ++ [(k, d)]) k' = (voteAt L k').or (if k = k' then some d else none) := by
  unfold voteAt
  rw [List.find?_append]
  cases h : L.find? (fun x => decide (x.1 = k')) with
  | some y => simp
  | none =>
    by_cases hk : k = k'
    · simp [hk]
    · simp [hk]
theorem voteAt_add (L : List (Vk × ByteArray)) (ok : Bool) (k k' : Vk) (d : ByteArray) : voteAt (addL ok k d L) k' = (voteAt L k').or (if ok = true ∧ k = k' then some d else none) := by
  unfold addL addOk
  rw [hasK_vote]
  cases ok with
  | false => simp
  | true =>
    cases hv : voteAt L k with
    | none => simp [voteAt_snoc]
    | some e =>
      simp only [Option.isSome_some, Bool.not_true, Bool.and_false, Bool.false_eq_true, if_false, true_and]
      by_cases hk : k = k'
      · subst hk; simp [hv]
      · simp [hk]
theorem firstV_cons (K : Nat → Int) (N : Int) (x : Mv) (l : List Mv) (k : Vk) : firstV K N (x :: l) k = (if okV K N x = true ∧ vk x.1 = k then some x.2 else none).or (firstV K N l k) := by
  unfold firstV
  rw [List.find?_cons]
  by_cases h : okV K N x = true ∧ vk x.1 = k
  · rw [if_pos h, h.1, decide_eq_true h.2]; simp
  · rw [if_neg h]
    have : (okV K N x && decide (vk x.1 = k)) = false := by
      rw [Bool.eq_false_iff]
      intro g
      rw [Bool.and_eq_true, decide_eq_true_eq] at g
      exact h g
    rw [this]
    simp
theorem foldl_vote (K : Nat → Int) (N : Int) (k : Vk) : ∀ (l : List Mv) (L : List (Vk × ByteArray)), voteAt (l.foldl (addV K N) L) k = (voteAt L k).or (firstV K N l k)
  | [], L => by simp [firstV]
  | x :: l, L => by
    rw [List.foldl_cons, foldl_vote K N k l, firstV_cons]
    unfold addV
    rw [voteAt_add, Option.or_assoc]
theorem boxV_vote (K : Nat → Int) (N : Int) (l : List Mv) (k : Vk) : voteAt (boxV K N l) k = firstV K N l k := by
  unfold boxV
  rw [foldl_vote]
  rfl
theorem firstV_append (K : Nat → Int) (N : Int) (l m : List Mv) (k : Vk) : firstV K N (l ++ m) k = (firstV K N l k).or (firstV K N m k) := by
  induction l with
  | nil => simp [firstV]
  | cons x l ih => rw [List.cons_append, firstV_cons, firstV_cons, ih, Option.or_assoc]
/-- the same votes come first -/
def SameV (K : Nat → Int) (N : Int) (l m : List Mv) : Prop := l.length = m.length ∧ ∀ k, firstV K N l k = firstV K N m k
theorem swap_form {α : Type} (l : List α) (i : Nat) (x y : α) (hx : l[i]? = some x) (hy : l[i + 1]? = some y) : l = l.take i ++ x :: y :: l.drop (i + 2) ∧ (l.set i y).set (i + 1) x = l.take i ++ y :: x :: l.drop (i + 2) := by
  obtain ⟨h1, e1⟩ := List.getElem?_eq_some_iff.1 hx
  obtain ⟨h2, e2⟩ := List.getElem?_eq_some_iff.1 hy
  have hl : l = l.take i ++ x :: y :: l.drop (i + 2) := by
    have a1 := List.drop_eq_getElem_cons h1
    have a2 := List.drop_eq_getElem_cons h2
    rw [e1] at a1
    rw [e2] at a2
    rw [a2] at a1
    have := List.take_append_drop i l
    rw [a1] at this
    exact this.symm
  refine ⟨hl, ?_⟩
  have hti : (l.take i).length = i := by rw [List.length_take]; omega
  have h3 : (l.set i y).set (i + 1) x = ((l.take i ++ x :: y :: l.drop (i + 2)).set i y).set (i + 1) x := by rw [← hl]
  rw [h3, List.set_append_right (s := l.take i) i y (by omega), hti, Nat.sub_self, List.set_cons_zero, List.set_append_right (s := l.take i) (i + 1) x (by omega), hti, Nat.add_sub_cancel_left]
  rfl
theorem SameV.swap {K : Nat → Int} {N : Int} {l m : List Mv} (h : SameV K N l m) (i : Nat) (x y : Mv) (hx : m[i]? = some x) (hy : m[i + 1]? = some y) (hn : x.1 1 ≠ y.1 1) : SameV K N l ((m.set i y).set (i + 1) x) := by
  refine ⟨by rw [List.length_set, List.length_set]; exact h.1, fun k => ?_⟩
  obtain ⟨h1, h2⟩ := swap_form m i x y hx hy
  rw [h.2 k, h2]
  conv => lhs; rw [h1]
  rw [firstV_append, firstV_append]
  congr 1
  rw [firstV_cons, firstV_cons, firstV_cons, firstV_cons, ← Option.or_assoc, ← Option.or_assoc]
  congr 1
  by_cases a : okV K N x = true ∧ vk x.1 = k
  · by_cases b : okV K N y = true ∧ vk y.1 = k
    · exfalso
      apply hn
      have := a.2.trans b.2.symm
      simp only [vk, Prod.mk.injEq] at this
      exact this.1
    · rw [if_pos a, if_neg b]; simp
  · rw [if_neg a]; simp
theorem cnt_same {L M : List (Vk × ByteArray)} (h : ∀ k, voteAt L k = voteAt M k) (kd hh r : Int) (d : ByteArray) : ∀ j, cnt L kd hh r d j = cnt M kd hh r d j
  | 0 => rfl
  | j + 1 => by rw [cnt, cnt, cnt_same h kd hh r d j, h]
theorem vote_mem {L : List (Vk × ByteArray)} {k : Vk} : (voteAt L k).isSome = true ↔ ∃ x ∈ L, x.1 = k := by
  rw [← hasK_vote]
  unfold hasK
  simp
theorem ahead_same {L M : List (Vk × ByteArray)} (h : ∀ k, voteAt L k = voteAt M k) {hh r : Int} {S : List Int} (hS : AheadOf L hh r S) : AheadOf M hh r S := by
  refine ⟨hS.1, fun f => (hS.2 f).trans ?_⟩
  constructor
  · rintro ⟨x, hx, h1, h2⟩
    have := (vote_mem (L := L) (k := x.1)).2 ⟨x, hx, rfl⟩
    rw [h] at this
    obtain ⟨y, hy, e⟩ := vote_mem.1 this
    exact ⟨y, hy, by rw [e]; exact h1, by rw [e]; exact h2⟩
  · rintro ⟨x, hx, h1, h2⟩
    have := (vote_mem (L := M) (k := x.1)).2 ⟨x, hx, rfl⟩
    rw [← h] at this
    obtain ⟨y, hy, e⟩ := vote_mem.1 this
    exact ⟨y, hy, by rw [e]; exact h1, by rw [e]; exact h2⟩
theorem ahead_unique {L : List (Vk × ByteArray)} {hh r : Int} {S T : List Int} (hS : AheadOf L hh r S) (hT : AheadOf L hh r T) : S.length = T.length := ahead_len hS T hT.1 hT.2
/-- a vote that is taken counts, one that is not does not -/
theorem cnt_taken {K : Nat → Int} {N : Nat} {x : Mv} {L : List (Vk × ByteArray)} (h : addOk (okV K N x) (vk x.1) L = true) : cnt (addV K N L x) (x.1 0) (x.1 3) (x.1 4) x.2 N = cnt L (x.1 0) (x.1 3) (x.1 4) x.2 N + 1 := by
  unfold addOk at h
  rw [Bool.and_eq_true, hasK_vote] at h
  obtain ⟨h1, h2⟩ := h
  obtain ⟨hf0, hf1⟩ := voteOk_from h1
  have hno : voteAt L (vk x.1) = none := by simpa using h2
  have key : ∀ j : Nat, cnt (addV K N L x) (x.1 0) (x.1 3) (x.1 4) x.2 j = cnt L (x.1 0) (x.1 3) (x.1 4) x.2 j + if x.1 1 < (j : Int) then 1 else 0 := by
    intro j
    induction j with
    | zero => rw [cnt, cnt, if_neg (by omega)]
    | succ j ih =>
      rw [cnt, cnt, ih]
      unfold addV
      rw [voteAt_add]
      by_cases hj : x.1 1 = (j : Int)
      · have e : ((j : Int), x.1 0, x.1 3, x.1 4) = vk x.1 := by rw [vk, hj]
        rw [e, hno, if_neg (show ¬ x.1 1 < (j : Int) by omega), if_pos (show okV K N x = true ∧ vk x.1 = vk x.1 from ⟨h1, rfl⟩), if_pos (show x.1 1 < ((j + 1 : Nat) : Int) by omega)]
        simp
      · have e : vk x.1 ≠ ((j : Int), x.1 0, x.1 3, x.1 4) := by
          intro e
          rw [vk, Prod.mk.injEq] at e
          exact hj e.1
        rw [if_neg (show ¬ (okV K N x = true ∧ vk x.1 = ((j : Int), x.1 0, x.1 3, x.1 4)) from fun g => e g.2)]
        rw [Option.or_none]
        by_cases hl : x.1 1 < (j : Int)
        · rw [if_pos hl, if_pos (show x.1 1 < ((j + 1 : Nat) : Int) by omega)]; omega
        · rw [if_neg hl, if_neg (show ¬ x.1 1 < ((j + 1 : Nat) : Int) by omega)]; omega
  rw [key N, if_pos hf1]
theorem add_left {K : Nat → Int} {N : Int} {x : Mv} {L : List (Vk × ByteArray)} (h : addOk (okV K N x) (vk x.1) L = false) : addV K N L x = L := by
  unfold addV addL
  rw [h]
  rfl
end Go.Proofs.YtcbckcojebanaaaDoor.RW

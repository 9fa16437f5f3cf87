/-
  Ballot, the plain side of the reference's box: what is counted in a list of votes is what the program's map counts: no program in sight.
-/
import Derived.Test.YtcbckcojebanaaaDoorBoP
namespace Go.Proofs.YtcbckcojebanaaaDoor.RW
open Go Go.RowKit
/-- votes under distinct keys, of sites below N -/
structure GoodL (N : Nat) (L : List (Vk × ByteArray)) : Prop where
  nd : (L.map (·.1)).Nodup
  fr : ∀ x ∈ L, 0 ≤ x.1.1 ∧ x.1.1 < (N : Int)
theorem GoodL.nil (N : Nat) : GoodL N [] := ⟨by simp, by simp⟩
theorem hasK_iff (k : Vk) (L : List (Vk × ByteArray)) : hasK k L = true ↔ k ∈ L.map (·.1) := by
  unfold hasK
  rw [List.any_eq_true, List.mem_map]
  constructor
  · rintro ⟨x, hx, h⟩; exact ⟨x, hx, of_decide_eq_true h⟩
  · rintro ⟨x, hx, h⟩; exact ⟨x, hx, decide_eq_true h⟩
theorem GoodL.add {N : Nat} {L : List (Vk × ByteArray)} (h : GoodL N L) {ok : Bool} {n : Nat → Int} (d : ByteArray) (hf : ok = true → 0 ≤ n 1 ∧ n 1 < (N : Int)) : GoodL N (addL ok (vk n) d L) := by
  refine ⟨?_, addL_from h.fr hf⟩
  unfold addL addOk
  split
  · rename_i hc
    rw [Bool.and_eq_true] at hc
    have h2 : hasK (vk n) L = false := by simpa using hc.2
    rw [List.map_append, List.nodup_append]
    refine ⟨h.nd, by simp, ?_⟩
    intro a ha b hb hab
    rw [List.map_cons, List.map_nil, List.mem_singleton] at hb
    subst hab
    have := (hasK_iff a L).2 ha
    rw [hb] at this
    rw [show ((vk n, d) : Vk × ByteArray).1 = vk n from rfl] at this
    rw [this] at h2
    cases h2
  · exact h.nd
/-- of this kind, height and round -/
def mt (kd h r : Int) (x : Vk × ByteArray) : Bool := decide (x.1.2 = (kd, h, r))
/-- how many votes of a list are for a digest -/
def rc (kd h r : Int) (d : ByteArray) : List (Vk × ByteArray) → Nat
  | [] => 0
  | x :: l => (if mt kd h r x = true ∧ x.2 = d then 1 else 0) + rc kd h r d l
theorem rc_append (kd h r : Int) (d : ByteArray) (l m : List (Vk × ByteArray)) : rc kd h r d (l ++ m) = rc kd h r d l + rc kd h r d m := by
  induction l with
  | nil => simp [rc]
  | cons x l ih => rw [List.cons_append, rc, rc, ih, Nat.add_assoc]
theorem rc_le (kd h r : Int) (d : ByteArray) : ∀ l : List (Vk × ByteArray), rc kd h r d l ≤ l.length
  | [] => Nat.le_refl _
  | x :: l => by
    have := rc_le kd h r d l
    rw [rc, List.length_cons]
    split <;> omega
theorem cnt_snoc {L : List (Vk × ByteArray)} {k : Vk} {e : ByteArray} (hno : voteAt L k = none) (kd h r : Int) (d : ByteArray) (h0 : 0 ≤ k.1) : ∀ j : Nat, cnt (L ++ [(k, e)]) kd h r d j = cnt L kd h r d j + if k.1 < (j : Int) ∧ k.2 = (kd, h, r) ∧ e = d then 1 else 0
  | 0 => by rw [cnt, cnt, if_neg (by omega)]
  | j + 1 => by
    rw [cnt, cnt, cnt_snoc hno kd h r d h0 j, voteAt_snoc]
    by_cases hk : k = ((j : Int), kd, h, r)
    · have e1 : k.1 = (j : Int) := by rw [hk]
      have e2 : k.2 = (kd, h, r) := by rw [hk]
      have a1 : (if k.1 < (j : Int) ∧ k.2 = (kd, h, r) ∧ e = d then 1 else 0) = 0 := if_neg (by omega)
      rw [← hk, hno, a1]
      simp only [Option.none_or, if_true]
      by_cases hd : e = d
      · have a2 : (if k.1 < ((j + 1 : Nat) : Int) ∧ k.2 = (kd, h, r) ∧ e = d then 1 else 0) = 1 := if_pos ⟨by omega, e2, hd⟩
        rw [a2, hd]
        simp
      · have a2 : (if k.1 < ((j + 1 : Nat) : Int) ∧ k.2 = (kd, h, r) ∧ e = d then 1 else 0) = 0 := if_neg fun g => hd g.2.2
        rw [a2]
        simp [hd]
    · rw [if_neg (show ¬ k = ((j : Int), kd, h, r) from hk), Option.or_none]
      have a3 : (if k.1 < (j : Int) ∧ k.2 = (kd, h, r) ∧ e = d then 1 else 0) = (if k.1 < ((j + 1 : Nat) : Int) ∧ k.2 = (kd, h, r) ∧ e = d then 1 else 0) := by
        by_cases hq : k.2 = (kd, h, r) ∧ e = d
        · have hne : k.1 ≠ (j : Int) := fun g => hk (by rw [← g, ← hq.1])
          by_cases hl : k.1 < (j : Int)
          · rw [if_pos ⟨hl, hq⟩, if_pos ⟨by omega, hq⟩]
          · rw [if_neg (fun g => hl g.1), if_neg (fun g => by have := g.1; omega)]
        · rw [if_neg (fun g => hq g.2), if_neg (fun g => hq g.2)]
      rw [a3]
      omega
theorem voteAt_none {L : List (Vk × ByteArray)} {k : Vk} (h : k ∉ L.map (·.1)) : voteAt L k = none := by
  have h1 : hasK k L = false := by
    cases hc : hasK k L with
    | false => rfl
    | true => exact absurd ((hasK_iff k L).1 hc) h
  rw [hasK_vote] at h1
  simpa using h1
/-- the map's count is the list's -/
theorem cnt_rc {N : Nat} (kd h r : Int) (d : ByteArray) : ∀ (L R : List (Vk × ByteArray)), R = L.reverse → GoodL N L → cnt L kd h r d N = rc kd h r d L := by
  intro L R
  induction R generalizing L with
  | nil =>
    intro hR _
    obtain rfl : L = [] := by simpa using hR.symm
    have : ∀ j, cnt ([] : List (Vk × ByteArray)) kd h r d j = 0 := by
      intro j
      induction j with
      | zero => rfl
      | succ j ih => rw [cnt, ih]; simp [voteAt]
    rw [this]; rfl
  | cons x R ih =>
    intro hR hg
    have hL : L = R.reverse ++ [x] := by
      have := congrArg List.reverse hR
      simpa using this.symm
    subst hL
    have hg2 := hg.nd
    rw [List.map_append, List.nodup_append] at hg2
    have hno : voteAt R.reverse x.1 = none := voteAt_none fun hm => hg2.2.2 _ hm x.1 (by simp) rfl
    have hx := hg.fr x (by simp)
    have hgR : GoodL N R.reverse := ⟨hg2.1, fun y hy => hg.fr y (List.mem_append_left _ hy)⟩
    have h1 := cnt_snoc (e := x.2) hno kd h r d hx.1 N
    rw [show ((x.1, x.2) : Vk × ByteArray) = x from rfl] at h1
    rw [h1, ih R.reverse (by simp) hgR, rc_append]
    congr 1
    unfold rc mt
    rw [rc, Nat.add_zero]
    by_cases hq : x.1.2 = (kd, h, r) ∧ x.2 = d
    · rw [if_pos ⟨hx.2, hq⟩, if_pos ⟨decide_eq_true hq.1, hq.2⟩]
    · rw [if_neg (fun g => hq g.2), if_neg (fun g => hq ⟨of_decide_eq_true g.1, g.2⟩)]
theorem cnt_list {N : Nat} {L : List (Vk × ByteArray)} (h : GoodL N L) (kd hh r : Int) (d : ByteArray) : cnt L kd hh r d N = rc kd hh r d L := cnt_rc kd hh r d L _ rfl h
/-- the digests of the votes of this kind, height and round -/
def digs (kd h r : Int) (L : List (Vk × ByteArray)) : List ByteArray := ((L.filter (mt kd h r)).map (·.2)).reverse
theorem digs_snoc_yes {kd h r : Int} {L : List (Vk × ByteArray)} {x : Vk × ByteArray} (hm : mt kd h r x = true) : digs kd h r (L ++ [x]) = x.2 :: digs kd h r L := by
  unfold digs
  rw [List.filter_append, List.filter_cons, if_pos hm, List.filter_nil, List.map_append, List.reverse_append]
  rfl
theorem digs_snoc_no {kd h r : Int} {L : List (Vk × ByteArray)} {x : Vk × ByteArray} (hm : mt kd h r x = false) : digs kd h r (L ++ [x]) = digs kd h r L := by
  unfold digs
  rw [List.filter_append, List.filter_cons, if_neg (by rw [hm]; exact Bool.false_ne_true), List.filter_nil, List.append_nil]
theorem rc_pos {kd h r : Int} {d : ByteArray} : ∀ {L : List (Vk × ByteArray)}, 0 < rc kd h r d L ↔ ∃ x ∈ L, mt kd h r x = true ∧ x.2 = d
  | [] => by simp [rc]
  | x :: l => by
    rw [rc]
    by_cases hx : mt kd h r x = true ∧ x.2 = d
    · rw [if_pos hx]
      exact ⟨fun _ => ⟨x, List.mem_cons_self, hx⟩, fun _ => by omega⟩
    · rw [if_neg hx, Nat.zero_add, rc_pos]
      exact ⟨fun ⟨y, hy, h⟩ => ⟨y, List.mem_cons_of_mem _ hy, h⟩, fun ⟨y, hy, h⟩ => by
        rcases List.mem_cons.1 hy with rfl | hy
        · exact absurd h hx
        · exact ⟨y, hy, h⟩⟩
theorem digs_all {kd h r : Int} {d : ByteArray} {L : List (Vk × ByteArray)} (hp : 0 < rc kd h r d L) : d ∈ digs kd h r L := by
  obtain ⟨x, hx, h1, h2⟩ := rc_pos.1 hp
  unfold digs
  rw [List.mem_reverse, List.mem_map]
  exact ⟨x, List.mem_filter.2 ⟨hx, h1⟩, h2⟩
/-- does a site have a vote at this height, in this round or a later one, among the votes? -/
def hasF (h r f : Int) (L : List (Vk × ByteArray)) : Bool := L.any fun x => decide (x.1.1 = f) && aheadK h r x.1
/-- how many of the first j sites have -/
def rah (L : List (Vk × ByteArray)) (h r : Int) : Nat → Nat
  | 0 => 0
  | j + 1 => rah L h r j + if hasF h r j L = true then 1 else 0
def rahL (L : List (Vk × ByteArray)) (h r : Int) (j : Nat) : List Int := ((List.range j).filter fun f : Nat => hasF h r (f : Int) L).map fun f : Nat => (f : Int)
theorem rahL_len (L : List (Vk × ByteArray)) (h r : Int) : ∀ j, (rahL L h r j).length = rah L h r j
  | 0 => rfl
  | j + 1 => by
    have := rahL_len L h r j
    unfold rahL at this ⊢
    rw [List.range_succ, List.filter_append, List.map_append, List.length_append, this, rah]
    congr 1
    by_cases hc : hasF h r (j : Int) L = true
    · rw [if_pos hc, List.filter_cons, if_pos hc]; rfl
    · rw [if_neg hc, List.filter_cons, if_neg hc]; rfl
theorem ahead_list {N : Nat} {L : List (Vk × ByteArray)} (hg : GoodL N L) {h r : Int} {S : List Int} (hS : AheadOf L h r S) : S.length = rah L h r N := by
  rw [← rahL_len]
  refine ahead_len hS _ ?_ fun f => ?_
  · unfold rahL
    exact List.pairwise_map.2 (((List.nodup_range.sublist List.filter_sublist)).imp fun h e => h (by omega))
  · unfold rahL
    rw [List.mem_map]
    constructor
    · rintro ⟨j, hj, rfl⟩
      have h2 := (List.mem_filter.1 hj).2
      unfold hasF at h2
      rw [List.any_eq_true] at h2
      obtain ⟨x, hx, h3⟩ := h2
      rw [Bool.and_eq_true, decide_eq_true_eq] at h3
      exact ⟨x, hx, h3.1, h3.2⟩
    · rintro ⟨x, hx, h1, h2⟩
      have hr := hg.fr x hx
      refine ⟨f.toNat, List.mem_filter.2 ⟨List.mem_range.2 (by omega), ?_⟩, by omega⟩
      unfold hasF
      rw [List.any_eq_true]
      exact ⟨x, hx, by rw [Bool.and_eq_true, decide_eq_true_eq]; exact ⟨by omega, h2⟩⟩
theorem rah_le (L : List (Vk × ByteArray)) (h r : Int) : ∀ j, rah L h r j ≤ j
  | 0 => Nat.le_refl _
  | j + 1 => by
    have := rah_le L h r j
    rw [rah]
    split <;> omega
end Go.Proofs.YtcbckcojebanaaaDoor.RW

/-
  The list of clusters as a partition, plain: what GraphPartition reckons.
-/
import Derived.Test.YtbmlfejlmedmgaaGP3
namespace Go.Proofs.Ytbmlfejlmedmgaa
namespace RW
/-- the number of the list that a number is in, from 1; or 0 -/
def mtx (C : List (List Int)) (n : Int) : Int := match C.findIdx? (fun c => c.contains n) with
  | some j => (j : Int) + 1
  | none => 0
def atp (C : List (List Int)) (i k : Nat) (n : Int) : Int := if ((C.getD i []).take k).contains n = true then (i : Int) + 1 else mtx (C.take i) n
theorem atp_zero (C : List (List Int)) (i : Nat) : atp C i 0 = mtx (C.take i) := by
  funext n
  unfold atp
  rw [List.take_zero, if_neg (by simp)]
theorem mtx_none {C : List (List Int)} {n : Int} (h : ∀ c ∈ C, n ∉ c) : mtx C n = 0 := by
  unfold mtx
  rw [List.findIdx?_eq_none_iff.2 fun c hc => by simpa using h c hc]
theorem getD_of {C : List (List Int)} {i : Nat} {c : List Int} (h : C[i]? = some c) : C.getD i [] = c := by
  rw [List.getD_eq_getElem?_getD, h]
  rfl
/-- lists that have nothing in common -/
def Dj (C : List (List Int)) : Prop := ∀ (i j : Nat) (c c' : List Int) (n : Int), C[i]? = some c → C[j]? = some c' → n ∈ c → n ∈ c' → i = j
theorem atp_next {C : List (List Int)} (hd : Dj C) {i : Nat} {c : List Int} (hc : C[i]? = some c) : atp C i c.length = mtx (C.take (i + 1)) := by
  funext n
  unfold atp
  rw [getD_of hc, List.take_length, List.take_add_one, hc]
  have hil := (List.getElem?_eq_some_iff.1 hc).1
  unfold mtx
  show _ = match (C.take i ++ [c]).findIdx? _ with | some j => (j : Int) + 1 | none => 0
  rw [List.findIdx?_append]
  by_cases hn : c.contains n = true
  · rw [if_pos hn]
    have hno : (C.take i).findIdx? (fun c => c.contains n) = none := by
      rw [List.findIdx?_eq_none_iff]
      intro c' hc'
      obtain ⟨j, hj⟩ := List.getElem?_of_mem hc'
      have hjl := (List.getElem?_eq_some_iff.1 hj).1
      rw [List.length_take] at hjl
      rw [List.getElem?_take_of_lt (by omega)] at hj
      have hne : ¬ n ∈ c' := fun h => by
        have := hd j i c' c n hj hc h (List.contains_iff_mem.1 hn)
        omega
      simpa using hne
    rw [hno]
    have h1 : [c].findIdx? (fun c => c.contains n) = some 0 := by simpa using List.contains_iff_mem.1 hn
    rw [h1]
    simp
    omega
  · rw [if_neg hn]
    have h1 : [c].findIdx? (fun c => c.contains n) = none := by
      rw [List.findIdx?_eq_none_iff]
      intro c' hc'
      rw [List.mem_singleton] at hc'
      rw [hc']
      simpa using hn
    rw [h1]
    cases (C.take i).findIdx? fun c => c.contains n <;> rfl
theorem atp_step {C : List (List Int)} {i k : Nat} {c : List Int} {m : Int} (hc : C[i]? = some c) (hm : c[k]? = some m) (n : Int) : atp C i (k + 1) n = if n = m then (i : Int) + 1 else atp C i k n := by
  unfold atp
  rw [getD_of hc, List.take_add_one, hm]
  by_cases h : n = m
  · rw [if_pos h, if_pos (by rw [List.contains_iff_mem]; simp [h])]
  · rw [if_neg h]
    have : (c.take k ++ [m]).contains n = (c.take k).contains n := by
      rw [Bool.eq_iff_iff, List.contains_iff_mem, List.contains_iff_mem, List.mem_append, List.mem_singleton]
      exact ⟨fun q => q.resolve_right h, .inl⟩
    show (if (c.take k ++ [m]).contains n = true then _ else _) = _
    rw [this]
theorem atp_fresh {C : List (List Int)} (hd : Dj C) {i k : Nat} {c : List Int} {m : Int} (hc : C[i]? = some c) (hup : c.Pairwise (· < ·)) (hm : c[k]? = some m) : atp C i k m = 0 := by
  unfold atp
  rw [getD_of hc]
  have h1 : ¬ (c.take k).contains m = true := fun h => by
    have h := List.contains_iff_mem.1 h
    obtain ⟨j, hj⟩ := List.getElem?_of_mem h
    have hjl := (List.getElem?_eq_some_iff.1 hj).1
    rw [List.length_take] at hjl
    rw [List.getElem?_take_of_lt (by omega)] at hj
    obtain ⟨a1, a2⟩ := List.getElem?_eq_some_iff.1 hj
    obtain ⟨b1, b2⟩ := List.getElem?_eq_some_iff.1 hm
    have := List.pairwise_iff_getElem.1 hup j k a1 b1 (by omega)
    omega
  rw [if_neg h1]
  refine mtx_none fun c' hc' h => ?_
  obtain ⟨j, hj⟩ := List.getElem?_of_mem hc'
  have hjl := (List.getElem?_eq_some_iff.1 hj).1
  rw [List.length_take] at hjl
  rw [List.getElem?_take_of_lt (by omega)] at hj
  have := hd j i c' c m hj hc h (List.mem_of_getElem? hm)
  omega
/-- a strictly ascending list, an element and the one before -/
theorem asc_prev {c : List Int} (hup : c.Pairwise (· < ·)) {k : Nat} {m p : Int} (hm : c[k + 1]? = some m) (hp : c[k]? = some p) : p < m := by
  obtain ⟨a1, a2⟩ := List.getElem?_eq_some_iff.1 hp
  obtain ⟨b1, b2⟩ := List.getElem?_eq_some_iff.1 hm
  have := List.pairwise_iff_getElem.1 hup k (k + 1) a1 b1 (by omega)
  omega
section
variable (l : List Ed)
theorem cls_get {i : Nat} {c : List Int} (h : (cls l)[i]? = some c) : ∃ a, (fsts (fun a => rOf l (false, a)) (accs l))[i]? = some a ∧ c = gpk (fun a => rOf l (false, a)) (accs l) a ∧ ∃ r, c = a :: r := by
  rw [cls_eq, List.getElem?_map] at h
  cases hf : (fsts (fun a => rOf l (false, a)) (accs l))[i]? with
  | none => rw [hf] at h; cases h
  | some a =>
    rw [hf] at h
    have h : gpk (fun a => rOf l (false, a)) (accs l) a = c := Option.some.inj h
    obtain ⟨r, hr⟩ := gpk_head _ _ a (List.mem_of_getElem? hf)
    exact ⟨a, rfl, h.symm, r, by rw [← h, hr]⟩
theorem cls_heads {i : Nat} {a b : Int} {r s : List Int} (h1 : (cls l)[i]? = some (a :: r)) (h2 : (cls l)[i + 1]? = some (b :: s)) : a < b := by
  obtain ⟨a', ha, _, _, e1⟩ := cls_get l h1
  obtain ⟨b', hb, _, _, e2⟩ := cls_get l h2
  cases e1
  cases e2
  have hup := (asc_up (l.map (·.1))).sublist (fsts_sub (fun a => rOf l (false, a)) (accs l))
  exact asc_prev hup hb ha
theorem cls_up {i : Nat} {c : List Int} (h : (cls l)[i]? = some c) : c.Pairwise (· < ·) := by
  obtain ⟨a, _, rfl, _⟩ := cls_get l h
  exact gpk_up (asc_up _) a
theorem cls_mem {i : Nat} {c : List Int} (h : (cls l)[i]? = some c) {n : Int} (hn : n ∈ c) : n ∈ accs l := by
  obtain ⟨a, _, rfl, _⟩ := cls_get l h
  exact (mem_gpk.1 hn).1
theorem cls_dj : Dj (cls l) := by
  intro i j c c' n h1 h2 hn hn'
  obtain ⟨a, ha, rfl, _⟩ := cls_get l h1
  obtain ⟨b, hb, rfl, _⟩ := cls_get l h2
  exact (gst_eq _ _).2.2 i j a b ha hb ((mem_gpk.1 hn).2.symm.trans (mem_gpk.1 hn').2)
theorem cls_cover {n : Int} (hn : n ∈ accs l) : ∃ (i : Nat) (c : List Int), (cls l)[i]? = some c ∧ n ∈ c := by
  obtain ⟨a, ha, hk⟩ := (gst_eq (fun a => rOf l (false, a)) (accs l)).2.1 n hn
  obtain ⟨i, hi⟩ := List.getElem?_of_mem ha
  refine ⟨i, gpk (fun a => rOf l (false, a)) (accs l) a, ?_, mem_gpk.2 ⟨hn, hk.symm⟩⟩
  rw [cls_eq, List.getElem?_map, hi]
  rfl
theorem mtx_at {i : Nat} {c : List Int} (h : (cls l)[i]? = some c) {n : Int} (hn : n ∈ c) : mtx (cls l) n = (i : Int) + 1 := by
  unfold mtx
  cases hf : (cls l).findIdx? fun c => c.contains n with
  | none =>
    have := List.findIdx?_eq_none_iff.1 hf c (List.mem_of_getElem? h)
    rw [List.contains_iff_mem.2 hn] at this
    cases this
  | some j =>
    obtain ⟨hj, hq, _⟩ := List.findIdx?_eq_some_iff_getElem.1 hf
    rw [cls_dj l j i _ c n (List.getElem?_eq_getElem hj) h (List.contains_iff_mem.1 hq) hn]
theorem mtx_zero (n : Int) : mtx (cls l) n = 0 ↔ n ∉ accs l := by
  constructor
  · intro h hn
    obtain ⟨i, c, hc, hnc⟩ := cls_cover l hn
    rw [mtx_at l hc hnc] at h
    omega
  · intro h
    refine mtx_none fun c hc hn => ?_
    obtain ⟨i, hi⟩ := List.getElem?_of_mem hc
    exact h (cls_mem l hi hn)
theorem jn_symm (x y : Int) : jn l x y = jn l y x := decide_eq_decide.2 eq_comm
/-- what GraphPartition says of two accounts -/
def prt (x y : Int) : Bool := decide (x = y) || (!decide (mtx (cls l) x = 0) && decide (mtx (cls l) x = mtx (cls l) y))
theorem jn_prt (x y : Int) : jn l x y = prt l x y := by
  rw [Bool.eq_iff_iff]
  unfold jn prt
  rw [Bool.or_eq_true, Bool.and_eq_true, decide_eq_true_eq, decide_eq_true_eq, decide_eq_true_eq, Bool.not_eq_true', decide_eq_false_iff_not]
  constructor
  · intro h
    by_cases hxy : x = y
    · exact .inl hxy
    · right
      have hx : x ∈ accs l := Classical.byContradiction fun hn => by
        obtain ⟨k1, k2⟩ := acc_alone l x fun e he q => hn (mem_accs.2 ⟨e, he, q⟩)
        rw [k1] at h
        have := k2 _ h.symm
        exact hxy (by cases this; rfl)
      have hy : y ∈ accs l := Classical.byContradiction fun hn => by
        obtain ⟨k1, k2⟩ := acc_alone l y fun e he q => hn (mem_accs.2 ⟨e, he, q⟩)
        rw [k1] at h
        have := k2 _ h
        exact hxy (by cases this; rfl)
      obtain ⟨i, c, hc, hnc⟩ := cls_cover l hx
      obtain ⟨a, _, hca, _⟩ := cls_get l hc
      have hyc : y ∈ c := by
        rw [hca] at hnc ⊢
        exact mem_gpk.2 ⟨hy, h.symm.trans (mem_gpk.1 hnc).2⟩
      rw [mtx_at l hc hnc, mtx_at l hc hyc]
      exact ⟨by omega, rfl⟩
  · rintro (rfl | ⟨h1, h2⟩)
    · rfl
    · have hx : x ∈ accs l := Classical.byContradiction fun hn => h1 ((mtx_zero l x).2 hn)
      have hy : y ∈ accs l := Classical.byContradiction fun hn => h1 (by rw [h2]; exact (mtx_zero l y).2 hn)
      obtain ⟨i, c, hc, hnc⟩ := cls_cover l hx
      obtain ⟨j, c', hc', hnc'⟩ := cls_cover l hy
      rw [mtx_at l hc hnc, mtx_at l hc' hnc'] at h2
      have hij : i = j := by omega
      subst hij
      rw [hc] at hc'
      cases hc'
      obtain ⟨a, _, rfl, _⟩ := cls_get l hc
      exact (mem_gpk.1 hnc).2.trans (mem_gpk.1 hnc').2.symm
end
end RW
end Go.Proofs.Ytbmlfejlmedmgaa

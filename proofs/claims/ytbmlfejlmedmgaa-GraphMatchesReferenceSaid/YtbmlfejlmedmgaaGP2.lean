/-
  Clusters, plain: what is joined depends on which edges there are, not on their order; the groups by a key.
-/
import Derived.Test.YtbmlfejlmedmgaaGP1
namespace Go.Proofs.Ytbmlfejlmedmgaa
namespace RW
/-- joined by edges -/
inductive Cn (l : List Ed) : Nd → Nd → Prop
  | refl (x : Nd) : Cn l x x
  | edge (e : Ed) (he : e ∈ l) : Cn l (false, e.1) (true, e.2)
  | symm {x y : Nd} (h : Cn l x y) : Cn l y x
  | trans {x y z : Nd} (h : Cn l x y) (g : Cn l y z) : Cn l x z
theorem Cn.mono {l m : List Ed} (h : ∀ e ∈ l, e ∈ m) {x y : Nd} (c : Cn l x y) : Cn m x y := by
  induction c with
  | refl x => exact .refl x
  | edge e he => exact .edge e (h e he)
  | symm _ ih => exact .symm ih
  | trans _ _ ih1 ih2 => exact .trans ih1 ih2
theorem conn_of (l : List Ed) : ∀ x y, rOf l x = rOf l y → Cn l x y := by
  refine snoc_ind (P := fun l => ∀ x y, rOf l x = rOf l y → Cn l x y) (fun x y h => by cases (show x = y from h); exact .refl x) ?_ l
  intro l e ih x y h
  have hm : ∀ e' ∈ l, e' ∈ l ++ [e] := fun e' he => List.mem_append.2 (.inl he)
  have he : Cn (l ++ [e]) (false, e.1) (true, e.2) := .edge e (by simp)
  rw [rOf_snoc] at h
  rcases (rJ_iff _ _ _ _).1 h with h | ⟨h1, h2⟩ | ⟨h1, h2⟩
  · exact (ih x y h).mono hm
  · exact (((ih _ _ h1).mono hm).trans he).trans ((ih _ _ h2).mono hm).symm
  · exact (((ih _ _ h1).mono hm).trans he.symm).trans ((ih _ _ h2).mono hm).symm
theorem conn_iff (l : List Ed) (x y : Nd) : rOf l x = rOf l y ↔ Cn l x y := by
  refine ⟨conn_of l x y, fun h => ?_⟩
  induction h with
  | refl x => rfl
  | edge e he => exact edge_conn l e he
  | symm _ ih => exact ih.symm
  | trans _ _ ih1 ih2 => exact ih1.trans ih2
theorem rOf_same {l m : List Ed} (h : ∀ e, e ∈ l ↔ e ∈ m) (x y : Nd) : rOf l x = rOf l y ↔ rOf m x = rOf m y := by
  rw [conn_iff, conn_iff]
  exact ⟨fun c => c.mono fun e he => (h e).1 he, fun c => c.mono fun e he => (h e).2 he⟩
theorem asc_same {α : Type} {l m : List α} (f : α → Int) (h : ∀ e, e ∈ l ↔ e ∈ m) : asc (l.map f) = asc (m.map f) := by
  refine asc_eq (asc_up _) (asc_up _) fun x => ?_
  rw [mem_asc, mem_asc, List.mem_map, List.mem_map]
  exact ⟨fun ⟨e, he, hx⟩ => ⟨e, (h e).1 he, hx⟩, fun ⟨e, he, hx⟩ => ⟨e, (h e).2 he, hx⟩⟩
theorem accs_same {l m : List Ed} (h : ∀ e, e ∈ l ↔ e ∈ m) : accs l = accs m := asc_same (fun e : Ed => e.1) h
theorem devs_same {l m : List Ed} (h : ∀ e, e ∈ l ↔ e ∈ m) : devs l = devs m := asc_same (fun e : Ed => e.2) h
theorem cAcc_same {l m : List Ed} (h : ∀ e, e ∈ l ↔ e ∈ m) (x : Int) : cAcc l x = cAcc m x := by
  unfold cAcc
  rw [accs_same h]
  split
  · congr 1
    funext y
    exact decide_eq_decide.2 (rOf_same h _ _)
  · rfl
theorem cDev_same {l m : List Ed} (h : ∀ e, e ∈ l ↔ e ∈ m) (x : Int) : cDev l x = cDev m x := by
  unfold cDev
  rw [accs_same h, devs_same h]
  split
  · congr 1
    funext y
    exact decide_eq_decide.2 (rOf_same h _ _)
  · rfl
/-- the numbers whose key has not come before -/
def fadd (k : Int → Nd) (acc : List Int) (x : Int) : List Int := if acc.any (fun a => decide (k a = k x)) = true then acc else acc ++ [x]
def fsts (k : Int → Nd) (A : List Int) : List Int := A.foldl (fadd k) []
theorem fsts_snoc (k : Int → Nd) (A : List Int) (x : Int) : fsts k (A ++ [x]) = fadd k (fsts k A) x := by
  unfold fsts
  rw [List.foldl_append]
  rfl
def gpk (k : Int → Nd) (A : List Int) (a : Int) : List Int := A.filter fun y => decide (k y = k a)
theorem gpk_snoc (k : Int → Nd) (A : List Int) (x a : Int) : gpk k (A ++ [x]) a = gpk k A a ++ (if k x = k a then [x] else []) := by
  unfold gpk
  rw [List.filter_append]
  congr 1
  rw [List.filter_cons, List.filter_nil]
  by_cases h : k x = k a
  · rw [decide_eq_true h, if_pos rfl, if_pos h]
  · rw [decide_eq_false h, if_neg Bool.false_ne_true, if_neg h]
theorem kidx_map (k : Int → Nd) (F : List Int) (g : Int → List Int) (r : Nd) : kidx (F.map fun a => (k a, g a)) r = F.findIdx? fun a => decide (k a = r) := by
  unfold kidx
  rw [List.findIdx?_map]
  rfl
theorem gst_eq (k : Int → Nd) (A : List Int) : gst k A = (fsts k A).map (fun a => (k a, gpk k A a)) ∧ (∀ y ∈ A, ∃ a ∈ fsts k A, k a = k y) ∧ (∀ (i j : Nat) (a b : Int), (fsts k A)[i]? = some a → (fsts k A)[j]? = some b → k a = k b → i = j) := by
  refine snoc_ind (P := fun A => gst k A = (fsts k A).map (fun a => (k a, gpk k A a)) ∧ (∀ y ∈ A, ∃ a ∈ fsts k A, k a = k y) ∧ (∀ (i j : Nat) (a b : Int), (fsts k A)[i]? = some a → (fsts k A)[j]? = some b → k a = k b → i = j)) ⟨rfl, (fun y hy => by cases hy), fun i j a b h => by simp [fsts] at h⟩ ?_ A
  intro A x ⟨h1, h2, h3⟩
  rw [gst_snoc, fsts_snoc, h1]
  cases hk : (fsts k A).findIdx? (fun a => decide (k a = k x)) with
  | some i =>
    obtain ⟨hi, hq, _⟩ := List.findIdx?_eq_some_iff_getElem.1 hk
    have hq : k (fsts k A)[i] = k x := by simpa using hq
    have hany : (fsts k A).any (fun a => decide (k a = k x)) = true := List.any_eq_true.2 ⟨_, List.getElem_mem hi, by simpa using hq⟩
    have hfa : fadd k (fsts k A) x = fsts k A := by rw [fadd, if_pos hany]
    rw [hfa]
    refine ⟨?_, fun y hy => ?_, h3⟩
    · rw [gadd, kidx_map, hk]
      apply List.ext_getElem?
      intro j
      show (List.modify _ _ _)[j]? = _
      rw [List.getElem?_modify, List.getElem?_map, List.getElem?_map]
      cases hj : (fsts k A)[j]? with
      | none => rfl
      | some b =>
        show some (if i = j then (k b, gpk k A b ++ [x]) else (k b, gpk k A b)) = some (k b, gpk k (A ++ [x]) b)
        rw [gpk_snoc]
        by_cases hij : i = j
        · subst hij
          have hb : b = (fsts k A)[i] := by
            rw [List.getElem?_eq_getElem hi] at hj
            exact (Option.some.inj hj).symm
          rw [if_pos rfl, if_pos (by rw [hb, hq])]
        · rw [if_neg hij, if_neg, List.append_nil]
          intro he
          exact hij (h3 i j _ b (List.getElem?_eq_getElem hi) hj (hq.trans he))
    · rw [List.mem_append, List.mem_singleton] at hy
      rcases hy with hy | rfl
      · exact h2 y hy
      · exact ⟨_, List.getElem_mem hi, hq⟩
  | none =>
    have hno : ∀ a ∈ fsts k A, k a ≠ k x := fun a ha => by
      have := List.findIdx?_eq_none_iff.1 hk a ha
      simpa using this
    have hany : ¬ (fsts k A).any (fun a => decide (k a = k x)) = true := fun h => by
      obtain ⟨a, ha, hq⟩ := List.any_eq_true.1 h
      exact hno a ha (by simpa using hq)
    have hfa : fadd k (fsts k A) x = fsts k A ++ [x] := by rw [fadd, if_neg hany]
    rw [hfa]
    refine ⟨?_, fun y hy => ?_, ?_⟩
    · rw [gadd, kidx_map, hk]
      show _ ++ [(k x, [x])] = _
      rw [List.map_append]
      have hgx : gpk k A x = [] := by
        unfold gpk
        rw [List.filter_eq_nil_iff]
        intro y hy hq
        obtain ⟨a, ha, he⟩ := h2 y hy
        exact hno a ha (he.trans (by simpa using hq))
      congr 1
      · apply List.map_congr_left
        intro a ha
        rw [gpk_snoc, if_neg (fun e => hno a ha e.symm), List.append_nil]
      · show _ = [(k x, gpk k (A ++ [x]) x)]
        rw [gpk_snoc, if_pos rfl, hgx]
        rfl
    · rw [List.mem_append, List.mem_singleton] at hy
      rcases hy with hy | rfl
      · obtain ⟨a, ha, he⟩ := h2 y hy
        exact ⟨a, List.mem_append.2 (.inl ha), he⟩
      · exact ⟨y, by simp, rfl⟩
    · have hlast : ∀ j b, (fsts k A).length ≤ j → (fsts k A ++ [x])[j]? = some b → b = x ∧ j = (fsts k A).length := fun j b hj hb => by
        rw [List.getElem?_append_right hj] at hb
        rcases hjj : j - (fsts k A).length with _ | q
        · rw [hjj] at hb
          simp at hb
          exact ⟨hb.symm, by omega⟩
        · rw [hjj] at hb
          simp at hb
      intro i j a b ha hb he
      rcases Nat.lt_or_ge i (fsts k A).length with hi | hi
      · rw [List.getElem?_append_left hi] at ha
        rcases Nat.lt_or_ge j (fsts k A).length with hj | hj
        · rw [List.getElem?_append_left hj] at hb
          exact h3 i j a b ha hb he
        · obtain ⟨rfl, _⟩ := hlast j b hj hb
          exact absurd he (hno a (List.mem_of_getElem? ha))
      · obtain ⟨rfl, e1⟩ := hlast i a hi ha
        rcases Nat.lt_or_ge j (fsts k A).length with hj | hj
        · rw [List.getElem?_append_left hj] at hb
          exact absurd he.symm (hno b (List.mem_of_getElem? hb))
        · rw [e1, (hlast j b hj hb).2]
theorem cls_eq (l : List Ed) : cls l = (fsts (fun a => rOf l (false, a)) (accs l)).map (gpk (fun a => rOf l (false, a)) (accs l)) := by
  unfold cls
  rw [(gst_eq _ _).1, List.map_map]
  rfl
theorem fsts_same {k k' : Int → Nd} (h : ∀ x y, k x = k y ↔ k' x = k' y) (A : List Int) : fsts k A = fsts k' A := by
  have hf : fadd k = fadd k' := by
    funext acc x
    unfold fadd
    have : (fun a => decide (k a = k x)) = (fun a => decide (k' a = k' x)) := by
      funext a
      exact decide_eq_decide.2 (h a x)
    rw [this]
  unfold fsts
  rw [hf]
theorem gpk_same {k k' : Int → Nd} (h : ∀ x y, k x = k y ↔ k' x = k' y) (A : List Int) : gpk k A = gpk k' A := by
  funext a
  unfold gpk
  congr 1
  funext y
  exact decide_eq_decide.2 (h y a)
theorem cls_same {l m : List Ed} (h : ∀ e, e ∈ l ↔ e ∈ m) : cls l = cls m := by
  rw [cls_eq, cls_eq, accs_same h, fsts_same (k' := fun a => rOf m (false, a)) (fun x y => rOf_same h _ _), gpk_same (k' := fun a => rOf m (false, a)) (fun x y => rOf_same h _ _)]
end RW
end Go.Proofs.Ytbmlfejlmedmgaa

/-
  What the representatives of a graph's nodes say, plain: edges join; what does not occur stands alone; a further edge.
-/
import Derived.Test.YtbmlfejlmedmgaaG10
namespace Go.Proofs.Ytbmlfejlmedmgaa
namespace RW
theorem snoc_ind {α : Type} {P : List α → Prop} (h0 : P []) (hs : ∀ l e, P l → P (l ++ [e])) (l : List α) : P l := by
  have h : ∀ l : List α, P l.reverse := by
    intro l
    induction l with
    | nil => exact h0
    | cons x l ih =>
      rw [List.reverse_cons]
      exact hs _ _ ih
  have := h l.reverse
  rwa [List.reverse_reverse] at this
theorem rJ_left (R : Nd → Nd) (a b : Nd) : rJ R a b a = R b := by rw [rJ, if_pos rfl]
theorem rJ_right (R : Nd → Nd) (a b : Nd) : rJ R a b b = R b := by unfold rJ; split <;> rfl
theorem rJ_mono (R : Nd → Nd) (a b x y : Nd) (h : R x = R y) : rJ R a b x = rJ R a b y := (rJ_iff a b x y).2 (.inl h)
theorem edge_conn (l : List Ed) : ∀ e ∈ l, rOf l (false, e.1) = rOf l (true, e.2) := by
  refine snoc_ind (P := fun l => ∀ e ∈ l, rOf l (false, e.1) = rOf l (true, e.2)) (fun e he => by cases he) ?_ l
  intro l e ih x hx
  rw [rOf_snoc]
  rw [List.mem_append, List.mem_singleton] at hx
  rcases hx with hx | rfl
  · exact rJ_mono _ _ _ _ _ (ih x hx)
  · rw [rJ_left, rJ_right]
theorem dev_alone (l : List Ed) (d : Int) : (∀ e ∈ l, e.2 ≠ d) → rOf l (true, d) = (true, d) ∧ ∀ x, rOf l x = (true, d) → x = (true, d) := by
  refine snoc_ind (P := fun l => (∀ e ∈ l, e.2 ≠ d) → rOf l (true, d) = (true, d) ∧ ∀ x, rOf l x = (true, d) → x = (true, d)) (fun _ => ⟨rfl, fun x h => h⟩) ?_ l
  intro l e ih h
  obtain ⟨h1, h2⟩ := ih fun x hx => h x (List.mem_append.2 (.inl hx))
  have he := h e (by simp)
  have ha : rOf l (false, e.1) ≠ (true, d) := fun q => by have := h2 _ q; simp at this
  have hb : rOf l (true, e.2) ≠ (true, d) := fun q => by have := h2 _ q; simp at this; exact he this
  rw [rOf_snoc]
  refine ⟨?_, fun x hx => ?_⟩
  · rw [rJ, if_neg (by rw [h1]; exact Ne.symm ha), h1]
  · rw [rJ] at hx
    split at hx
    · exact absurd hx hb
    · exact h2 x hx
theorem acc_alone (l : List Ed) (a : Int) : (∀ e ∈ l, e.1 ≠ a) → rOf l (false, a) = (false, a) ∧ ∀ x, rOf l x = (false, a) → x = (false, a) := by
  refine snoc_ind (P := fun l => (∀ e ∈ l, e.1 ≠ a) → rOf l (false, a) = (false, a) ∧ ∀ x, rOf l x = (false, a) → x = (false, a)) (fun _ => ⟨rfl, fun x h => h⟩) ?_ l
  intro l e ih h
  obtain ⟨h1, h2⟩ := ih fun x hx => h x (List.mem_append.2 (.inl hx))
  have he := h e (by simp)
  have ha : rOf l (false, e.1) ≠ (false, a) := fun q => by have := h2 _ q; simp at this; exact he this
  have hb : rOf l (true, e.2) ≠ (false, a) := fun q => by have := h2 _ q; simp at this
  rw [rOf_snoc]
  refine ⟨?_, fun x hx => ?_⟩
  · rw [rJ, if_neg (by rw [h1]; exact Ne.symm ha), h1]
  · rw [rJ] at hx
    split at hx
    · exact absurd hx hb
    · exact h2 x hx
/-- the last account of a device, or -1 -/
def owner (l : List Ed) (d : Int) : Int := l.foldl (fun o e => if e.2 = d then e.1 else o) (-1)
theorem owner_snoc (l : List Ed) (e : Ed) (d : Int) : owner (l ++ [e]) d = if e.2 = d then e.1 else owner l d := by
  unfold owner
  rw [List.foldl_append]
  rfl
theorem owner_spec (l : List Ed) (d : Int) (hp : ∀ e ∈ l, 0 ≤ e.1) : (owner l d = -1 ∧ ∀ e ∈ l, e.2 ≠ d) ∨ (0 ≤ owner l d ∧ (owner l d, d) ∈ l) := by
  revert hp
  refine snoc_ind (P := fun l => (∀ e ∈ l, 0 ≤ e.1) → (owner l d = -1 ∧ ∀ e ∈ l, e.2 ≠ d) ∨ (0 ≤ owner l d ∧ (owner l d, d) ∈ l)) (fun _ => .inl ⟨rfl, fun e he => by cases he⟩) ?_ l
  intro l e ih hp
  rw [owner_snoc]
  split
  · rename_i h
    refine .inr ⟨hp e (by simp), ?_⟩
    rw [← h]
    simp
  · rename_i h
    rcases ih fun x hx => hp x (List.mem_append.2 (.inl hx)) with ⟨h1, h2⟩ | ⟨h1, h2⟩
    · refine .inl ⟨h1, fun x hx => ?_⟩
      rw [List.mem_append, List.mem_singleton] at hx
      rcases hx with hx | rfl
      · exact h2 x hx
      · exact h
    · exact .inr ⟨h1, List.mem_append.2 (.inl h2)⟩
/-- what GraphAdd reckons -/
def wantA (l : List Ed) (f : Ed) (x y : Int) : Bool :=
  if 0 ≤ owner l f.2 then jn l x y || (jn l x f.1 && jn l y (owner l f.2)) || (jn l y f.1 && jn l x (owner l f.2)) else jn l x y
theorem joined_add (l : List Ed) (f : Ed) (x y : Int) (hp : ∀ e ∈ l, 0 ≤ e.1) : jn (l ++ [f]) x y = wantA l f x y := by
  rw [Bool.eq_iff_iff]
  have h0 : jn (l ++ [f]) x y = true ↔ rOf l (false, x) = rOf l (false, y) ∨ (rOf l (false, x) = rOf l (false, f.1) ∧ rOf l (false, y) = rOf l (true, f.2)) ∨ (rOf l (false, x) = rOf l (true, f.2) ∧ rOf l (false, y) = rOf l (false, f.1)) := by
    unfold jn
    rw [decide_eq_true_eq, rOf_snoc]
    exact rJ_iff _ _ _ _
  rw [h0]
  unfold wantA
  rcases owner_spec l f.2 hp with ⟨h1, h2⟩ | ⟨h1, h2⟩
  · rw [if_neg (by omega)]
    obtain ⟨k1, k2⟩ := dev_alone l f.2 h2
    have hx : rOf l (false, x) ≠ rOf l (true, f.2) := fun q => by rw [k1] at q; have := k2 _ q; simp at this
    have hy : rOf l (false, y) ≠ rOf l (true, f.2) := fun q => by rw [k1] at q; have := k2 _ q; simp at this
    unfold jn
    rw [decide_eq_true_eq]
    constructor
    · rintro (h | h | h)
      · exact h
      · exact absurd h.2 hy
      · exact absurd h.1 hx
    · exact .inl
  · rw [if_pos h1]
    have hc := edge_conn l _ h2
    rw [← hc]
    unfold jn
    simp only [Bool.or_eq_true, Bool.and_eq_true, decide_eq_true_eq]
    constructor
    · rintro (h | h | h)
      · exact .inl (.inl h)
      · exact .inl (.inr h)
      · exact .inr ⟨h.2, h.1⟩
    · rintro ((h | h) | h)
      · exact .inl h
      · exact .inr (.inl h)
      · exact .inr (.inr ⟨h.2, h.1⟩)
theorem fewL_small (l : List Ed) : ∀ e ∈ fewL false l, (0 ≤ e.1 ∧ e.1 < 14) ∧ (0 ≤ e.2 ∧ e.2 < 12) := by
  intro e he
  obtain ⟨x, _, rfl⟩ := List.mem_map.1 he
  exact ⟨pickI_bd _ _ (by decide), pickI_bd _ _ (by decide)⟩
end RW
end Go.Proofs.Ytbmlfejlmedmgaa

/-
  Statements, plain: the totals of a holder's statements add up.
-/
import Derived.Test.YtillplhadimgmaaSt27
namespace Go.Proofs.Ytillplhadimgmaa
open Go.RowKit RG
namespace RW
/-- f k + f (k + 1) + .. : d numbers -/
def sumR (f : Int → Int) : Nat → Int → Int
  | 0, _ => 0
  | d + 1, k => f k + sumR f d (k + 1)
theorem sumR_zero (f : Int → Int) : ∀ (d : Nat) (k : Int), (∀ i, k ≤ i → i < k + d → f i = 0) → sumR f d k = 0
  | 0, _, _ => rfl
  | d + 1, k, h => by
    rw [sumR, h k (by omega) (by omega), sumR_zero f d (k + 1) fun i h1 h2 => h i (by omega) (by omega)]
    rfl
theorem sum_asc (f : Int → Int) : ∀ (d : Nat) (k : Int) (ps : List Int), ps.Pairwise (· < ·) → (∀ p ∈ ps, k ≤ p ∧ p < k + d) → (∀ i, k ≤ i → i < k + d → i ∉ ps → f i = 0) → (ps.map f).sum = sumR f d k
  | 0, k, ps, _, hb, _ => by
    cases ps with
    | nil => rfl
    | cons p t =>
      have := hb p List.mem_cons_self
      omega
  | d + 1, k, [], _, _, hz => by
    rw [sumR_zero f (d + 1) k fun i h1 h2 => hz i h1 h2 (by simp)]
    rfl
  | d + 1, k, p :: t, ha, hb, hz => by
    have hp := hb p List.mem_cons_self
    rw [List.pairwise_cons] at ha
    by_cases e : p = k
    · subst e
      rw [List.map_cons, List.sum_cons, sumR, sum_asc f d (p + 1) t ha.2 (fun q hq => by
        have h1 := hb q (List.mem_cons_of_mem _ hq)
        have h2 := ha.1 q hq
        omega) fun i h1 h2 h3 => hz i (by omega) (by omega) (by
          rw [List.mem_cons]
          rintro (rfl | h4)
          · omega
          · exact h3 h4)]
    · rw [sumR, hz k (by omega) (by omega) (by
        rw [List.mem_cons]
        rintro (rfl | h4)
        · exact e rfl
        · have := ha.1 _ h4
          omega), Int.zero_add]
      exact sum_asc f d (k + 1) (p :: t) (List.pairwise_cons.2 ha) (fun q hq => by
        have h1 := hb q hq
        rw [List.mem_cons] at hq
        rcases hq with rfl | hq
        · omega
        · have h2 := ha.1 q hq
          omega) fun i h1 h2 h3 => hz i (by omega) (by omega) h3
theorem sumR_sub (f g : Int → Int) : ∀ (d : Nat) (k : Int), sumR (fun i => f i - g i) d k = sumR f d k - sumR g d k
  | 0, _ => rfl
  | d + 1, k => by
    rw [sumR, sumR, sumR, sumR_sub f g d (k + 1)]
    omega
/-- what the rows pay the holder in all -/
def allP (l : List Rw) (h : Int) : Int := sumR (paid l h) 6 0
theorem allP_nil (h : Int) : allP [] h = 0 := sumR_zero _ _ _ fun _ _ _ => rfl
theorem paid_zero {l : List Rw} {h p : Int} (hn : ∀ r ∈ l, ¬ (r 0 = h ∧ r 1 = p)) : paid l h p = 0 := by
  unfold paid
  induction l with
  | nil => rfl
  | cons r l ih => rw [List.map_cons, List.sum_cons, ih fun q hq => hn q (List.mem_cons_of_mem _ hq), pays, if_neg (hn r List.mem_cons_self)]; rfl
theorem mem_pers {l : List Rw} {h p : Int} : p ∈ pers l h ↔ ∃ r ∈ l, r 0 = h ∧ r 1 = p := by
  unfold pers
  rw [mem_asc, List.mem_map]
  constructor
  · rintro ⟨r, hr, rfl⟩
    rw [List.mem_filter, decide_eq_true_eq] at hr
    exact ⟨r, hr.1, hr.2, rfl⟩
  · rintro ⟨r, hr, h0, rfl⟩
    exact ⟨r, by rw [List.mem_filter, decide_eq_true_eq]; exact ⟨hr, h0⟩, rfl⟩
theorem mem_hols {l : List Rw} {h : Int} : h ∈ hols l ↔ ∃ r ∈ l, r 0 = h := by
  unfold hols
  rw [mem_asc, List.mem_map]
theorem paid_ok {l : List Rw} (hl : ∀ q ∈ l, MkOk q) (h p : Int) : 0 ≤ paid l h p ∧ paid l h p ≤ 80000 * (l.length : Int) := by
  unfold paid
  induction l with
  | nil => simp
  | cons r l ih =>
    have h1 := ih fun q hq => hl q (List.mem_cons_of_mem _ hq)
    have h2 := hl r List.mem_cons_self
    have h3 : 0 ≤ pays h p r ∧ pays h p r ≤ 80000 := by
      unfold pays
      unfold MkOk at h2
      split <;> omega
    rw [List.map_cons, List.sum_cons, List.length_cons, Int.natCast_add]
    omega
/-- rows made by Make, at most thirty -/
def Mk (l : List Rw) : Prop := (∀ q ∈ l, MkOk q) ∧ l.length ≤ 30
theorem mkA_mk (xs : List Ln) : Mk (mkA xs) := ⟨mkA_ok xs, mkA_len xs⟩
theorem mk_nil : Mk [] := ⟨(fun q hq => by cases hq), by decide⟩
theorem Mk.near {l : List Rw} (h : Mk l) : NearR l := fun q hq => by
  have := h.1 q hq
  unfold MkOk at this
  omega
theorem pay_ok {a b : List Rw} (ha : Mk a) (hb : Mk b) (h p : Int) : pay (lnOf b a h p) = paid a h p - paid b h p := by
  have h1 := paid_ok ha.1 h p
  have h2 := paid_ok hb.1 h p
  have h3 := ha.2
  have h4 := hb.2
  unfold pay lnOf
  rw [if_pos (by rw [monL, Bool.and_eq_true, mon_iff, mon_iff]; dsimp only; omega)]
theorem tot_filter (l : List Ln) : tot (l.filter dif) = tot l := by
  unfold tot
  induction l with
  | nil => rfl
  | cons x l ih =>
    by_cases e : dif x = true
    · rw [List.filter_cons_of_pos e, List.map_cons, List.sum_cons, ih, List.map_cons, List.sum_cons]
    · rw [List.filter_cons_of_neg e, ih, List.map_cons, List.sum_cons]
      have e2 : x.2.1 = x.2.2 := by
        rw [dif, decide_eq_true_eq] at e
        exact Classical.not_not.1 e
      rw [show pay x = 0 by unfold pay; split <;> omega, Int.zero_add]
/-- what a statement totals is what the new books pay more -/
theorem tot_lns {a b : List Rw} (ha : Mk a) (hb : Mk b) (h : Int) : tot (lns b a h) = allP a h - allP b h := by
  unfold lns
  rw [tot_filter]
  unfold tot
  rw [List.map_map, show (pay ∘ lnOf b a h) = fun p => paid a h p - paid b h p from funext fun p => pay_ok ha hb h p]
  rw [sum_asc _ 6 0 _ (pers_up _ _) (fun p hp => by
    obtain ⟨r, hr, _, rfl⟩ := mem_pers.1 hp
    rw [List.mem_append] at hr
    have : MkOk r := by
      rcases hr with hr | hr
      · exact hb.1 r hr
      · exact ha.1 r hr
    unfold MkOk at this
    omega) (fun i _ _ hi => by
      rw [paid_zero fun r hr e => hi (mem_pers.2 ⟨r, List.mem_append_right _ hr, e⟩), paid_zero fun r hr e => hi (mem_pers.2 ⟨r, List.mem_append_left _ hr, e⟩)]
      rfl)]
  exact sumR_sub _ _ _ _
/-- the holder has a statement, if it has lines -/
theorem any_st (b a : List Rw) (c h : Int) : (stAll b a c).any (fun s => decide (s.1 = h)) = decide (0 < (lns b a h).length) := by
  rw [Bool.eq_iff_iff, List.any_eq_true, decide_eq_true_eq]
  constructor
  · rintro ⟨s, hs, e⟩
    rw [decide_eq_true_eq] at e
    unfold stAll at hs
    rw [List.mem_filter, List.mem_map, decide_eq_true_eq] at hs
    obtain ⟨⟨p, _, rfl⟩, h1⟩ := hs
    have e2 : p = h := e
    rw [← e2]
    exact h1
  · intro h0
    refine ⟨stOf b a c h, ?_, decide_eq_true rfl⟩
    unfold stAll
    rw [List.mem_filter, List.mem_map, decide_eq_true_eq]
    refine ⟨⟨h, ?_, rfl⟩, h0⟩
    cases hl : lns b a h with
    | nil => rw [hl] at h0; exact absurd h0 (by decide)
    | cons x l =>
      have hx : x ∈ lns b a h := by rw [hl]; exact List.mem_cons_self
      unfold lns at hx
      obtain ⟨p, hp, _⟩ := List.mem_map.1 (List.mem_filter.1 hx).1
      obtain ⟨r, hr, h1, _⟩ := mem_pers.1 hp
      exact mem_hols.2 ⟨r, hr, h1⟩
/-- each statement is its holder's -/
theorem st_of {b a : List Rw} {c : Int} {s : St} (hs : s ∈ stAll b a c) : s = stOf b a c s.1 := by
  unfold stAll at hs
  rw [List.mem_filter, List.mem_map] at hs
  obtain ⟨⟨p, _, rfl⟩, _⟩ := hs
  rfl
theorem allP_bd {l : List Rw} (hl : Mk l) (h : Int) : 0 ≤ allP l h ∧ allP l h ≤ 100000000 := by
  have g := fun p => paid_ok hl.1 h p
  have h0 := hl.2
  have g0 := g 0
  have g1 := g 1
  have g2 := g 2
  have g3 := g 3
  have g4 := g 4
  have g5 := g 5
  show 0 ≤ paid l h 0 + (paid l h 1 + (paid l h 2 + (paid l h 3 + (paid l h 4 + (paid l h 5 + 0))))) ∧ paid l h 0 + (paid l h 1 + (paid l h 2 + (paid l h 3 + (paid l h 4 + (paid l h 5 + 0))))) ≤ _
  omega
/-- the first j periods -/
theorem sumR_snoc (f : Int → Int) : ∀ (d : Nat) (k : Int), sumR f (d + 1) k = sumR f d k + f (k + d)
  | 0, k => by simp [sumR]
  | d + 1, k => by
    rw [sumR, sumR_snoc f d (k + 1), sumR, show k + 1 + (d : Int) = k + ((d + 1 : Nat) : Int) by omega, Int.add_assoc]
end RW
end Go.Proofs.Ytillplhadimgmaa

/-
  Claims, parts and shares as plain data: what Claims and Resolve compute, and what that answers: plain Lean, no condition beyond each theorem's own premises.
-/
import Derived.Laws.BitsLemmas
namespace Go.Proofs.Ytnkdpfkmellpcaa.RW
open Go
theorem and_one (n : Int) : bits .and .i64 n 1 = n % 2 := by
  have h1 : (BitVec.ofInt 64 1).toNat = 2 ^ 1 - 1 := by decide
  have key : (BitVec.ofInt 64 n &&& BitVec.ofInt 64 1).toNat = (n % ((2 ^ 64 : Nat) : Int)).toNat % 2 ^ 1 := by
    rw [BitVec.toNat_and, BitVec.toNat_ofInt, h1, Nat.and_two_pow_sub_one_eq_mod]
  show IntKind.i64.wrap ((BitVec.ofInt 64 n &&& BitVec.ofInt 64 1).toNat : Nat) = n % 2
  rw [key, IntKind.wrap_i64]
  omega
/-- a part: holder, share -/
abbrev Pt := Int × Int
def cntB (s : Int) : Bool := decide (1 ≤ s) && decide (s ≤ 1000000)
theorem cntB_iff (s : Int) : cntB s = true ↔ 1 ≤ s ∧ s ≤ 1000000 := by simp [cntB]
def bitI (t k : Int) : Int := t / 2 ^ k.toNat % 2
def inB (f : Nat → Int) (t p : Int) : Bool := decide (0 ≤ t) && (decide (t < 8) && (decide (bitI (f 8) t = 1) && (decide (f 11 ≤ p) && decide (p < f 12))))
def effB (f : Nat → Int) (r ro t p : Int) : Bool := decide (f 7 = r) && (decide (f 10 = ro) && (inB f t p && cntB (f 14)))
def tot : List Pt → Int
  | [] => 0
  | x :: l => x.2 + tot l
def okL (l : List Pt) : List Pt := l.filter fun x => cntB x.2
def lessL (o : Int) (l : List Pt) : List Pt := l.map fun x => (x.1, max (x.2 - o) 0)
/-- shares: parts, contested, unclaimed -/
abbrev Sh := List Pt × Int × Int
def resolve (l : List Pt) : Sh :=
  if tot (okL l) - 1000000 ≤ 0 then (okL l, 0, -(tot (okL l) - 1000000))
  else (okL (lessL (tot (okL l) - 1000000) (okL l)), 1000000 - tot (lessL (tot (okL l) - 1000000) (okL l)), 0)
/-- shares that are considered -/
def Sound (l : List Pt) : Prop := ∀ x ∈ l, 1 ≤ x.2 ∧ x.2 ≤ 1000000
theorem okL_sound (l : List Pt) : Sound (okL l) := fun x hx => (cntB_iff _).1 (by simpa [okL] using (List.mem_filter.1 hx).2)
theorem okL_of {l : List Pt} (h : Sound l) : okL l = l := List.filter_eq_self.2 fun x hx => (cntB_iff _).2 (h x hx)
theorem tot_nonneg : ∀ {l : List Pt}, Sound l → 0 ≤ tot l
  | [], _ => Int.le_refl _
  | x :: l, h => by
    have h1 := h x (List.mem_cons_self ..)
    have h2 := tot_nonneg (l := l) fun y hy => h y (List.mem_cons_of_mem _ hy)
    unfold tot
    omega
theorem tot_append : ∀ (l m : List Pt), tot (l ++ m) = tot l + tot m
  | [], m => by simp [tot]
  | x :: l, m => by
    rw [List.cons_append, tot, tot, tot_append l m]
    omega
theorem tot_le : ∀ {l : List Pt}, Sound l → tot l ≤ 1000000 * l.length
  | [], _ => by simp [tot]
  | x :: l, h => by
    have h1 := h x (List.mem_cons_self ..)
    have h2 := tot_le (l := l) fun y hy => h y (List.mem_cons_of_mem _ hy)
    rw [tot, List.length_cons]
    omega
theorem tot_less_nonneg (o : Int) : ∀ l : List Pt, 0 ≤ tot (lessL o l)
  | [] => Int.le_refl _
  | x :: l => by
    have h2 := tot_less_nonneg o l
    show 0 ≤ max (x.2 - o) 0 + tot (lessL o l)
    omega
theorem tot_ok_less {o : Int} (ho : 0 ≤ o) : ∀ {l : List Pt}, Sound l → tot (okL (lessL o l)) = tot (lessL o l)
  | [], _ => rfl
  | x :: l, h => by
    have h1 := h x (List.mem_cons_self ..)
    have h2 := tot_ok_less ho (l := l) fun y hy => h y (List.mem_cons_of_mem _ hy)
    show tot (okL ((x.1, max (x.2 - o) 0) :: lessL o l)) = max (x.2 - o) 0 + tot (lessL o l)
    unfold okL at h2 ⊢
    rw [List.filter_cons]
    split
    · rw [tot, h2]
    · rename_i hc
      rw [cntB_iff] at hc
      simp only at hc
      rw [h2]
      omega
theorem less_min (o : Int) (ho : 0 ≤ o) : ∀ {l : List Pt}, Sound l → tot (lessL o l) ≤ tot l - min o (tot l)
  | [], _ => by simp [lessL, tot]; omega
  | x :: l, h => by
    have h1 := h x (List.mem_cons_self ..)
    have h2 := less_min o ho (l := l) fun y hy => h y (List.mem_cons_of_mem _ hy)
    have h3 := tot_nonneg (l := l) fun y hy => h y (List.mem_cons_of_mem _ hy)
    show max (x.2 - o) 0 + tot (lessL o l) ≤ x.2 + tot l - min o (x.2 + tot l)
    omega
theorem less_lt {o : Int} (ho : 1 ≤ o) {l : List Pt} (h : Sound l) (ht : tot l = 1000000 + o) : tot (lessL o l) < 1000000 := by
  match l, h, ht with
  | [], _, ht => simp [tot] at ht; omega
  | [x], h, ht =>
    have h1 := h x (List.mem_cons_self ..)
    simp [tot] at ht
    omega
  | x :: y :: l, h, ht =>
    have h1 := h x (List.mem_cons_self ..)
    have hy : Sound (y :: l) := fun z hz => h z (List.mem_cons_of_mem _ hz)
    have h2 := less_min o (by omega) hy
    have h3 := hy y (List.mem_cons_self ..)
    have h4 : 0 ≤ tot l := tot_nonneg fun z hz => hy z (List.mem_cons_of_mem _ hz)
    rw [tot] at ht
    have h5 : tot (y :: l) = y.2 + tot l := rfl
    show max (x.2 - o) 0 + tot (lessL o (y :: l)) < 1000000
    omega
/-- what 'whole' asks -/
def wholeB (s : Sh) : Bool := (s.1.all fun x => decide (1 ≤ x.2)) && (decide (s.2.1 + s.2.2 + tot s.1 = 1000000) && (decide (0 ≤ s.2.1) && (decide (0 ≤ s.2.2) && (decide (s.2.1 = 0) || decide (s.2.2 = 0)))))
theorem resolve_small {l : List Pt} (h : tot (okL l) ≤ 1000000) : resolve l = (okL l, 0, 1000000 - tot (okL l)) := by
  unfold resolve
  rw [if_pos (by omega)]
  have : -(tot (okL l) - 1000000) = 1000000 - tot (okL l) := by omega
  rw [this]
theorem resolve_big {l : List Pt} (h : 1000000 < tot (okL l)) : resolve l = (okL (lessL (tot (okL l) - 1000000) (okL l)), 1000000 - tot (lessL (tot (okL l) - 1000000) (okL l)), 0) := by
  unfold resolve
  rw [if_neg (by omega)]
theorem resolve_sound (l : List Pt) : Sound (resolve l).1 := by
  unfold resolve
  split <;> exact okL_sound _
theorem resolve_whole (l : List Pt) : wholeB (resolve l) = true := by
  have hs := okL_sound l
  have hall : ((resolve l).1.all fun x => decide (1 ≤ x.2)) = true := List.all_eq_true.2 fun x hx => decide_eq_true (resolve_sound l x hx).1
  unfold wholeB
  rw [hall]
  by_cases h : tot (okL l) ≤ 1000000
  · rw [resolve_small h]
    simp
    omega
  · rw [resolve_big (by omega)]
    have h1 := less_lt (o := tot (okL l) - 1000000) (by omega) hs (by omega)
    have h2 := tot_ok_less (o := tot (okL l) - 1000000) (by omega) hs
    simp [h2]
    omega
theorem resolve_cont (l : List Pt) : decide ((resolve l).2.1 > 0) = decide (tot (okL l) > 1000000) := by
  by_cases h : tot (okL l) ≤ 1000000
  · rw [resolve_small h]
    simp
    omega
  · rw [resolve_big (by omega)]
    have h1 := less_lt (o := tot (okL l) - 1000000) (by omega) (okL_sound l) (by omega)
    simp
    omega
theorem resolve_uncl (l : List Pt) : decide ((resolve l).2.2 > 0) = decide (tot (okL l) < 1000000) := by
  by_cases h : tot (okL l) ≤ 1000000
  · rw [resolve_small h]
    simp
  · rw [resolve_big (by omega)]
    simp
    omega
/-- what a list says of a holder -/
def getP (h : Int) : List Pt → Option Int
  | [] => none
  | x :: l => if x.1 = h then some x.2 else getP h l
/-- the sum of a holder's shares -/
def shareOf (h : Int) : List Pt → Int
  | [] => 0
  | x :: l => (if x.1 = h then x.2 else 0) + shareOf h l
def Asc (l : List Pt) : Prop := l.Pairwise fun a b => a.1 < b.1
theorem getP_none_of {h : Int} : ∀ {l : List Pt}, (∀ x ∈ l, x.1 ≠ h) → getP h l = none
  | [], _ => rfl
  | x :: l, hh => by
    rw [getP, if_neg (hh x (List.mem_cons_self ..))]
    exact getP_none_of fun y hy => hh y (List.mem_cons_of_mem _ hy)
theorem getP_mem {h s : Int} : ∀ {l : List Pt}, getP h l = some s → (h, s) ∈ l
  | [], hh => by cases hh
  | x :: l, hh => by
    rw [getP] at hh
    split at hh
    · rename_i e
      cases hh
      subst e
      exact List.mem_cons_self ..
    · exact List.mem_cons_of_mem _ (getP_mem hh)
theorem getP_of_mem {h s : Int} : ∀ {l : List Pt}, Asc l → (h, s) ∈ l → getP h l = some s
  | [], _, hm => by cases hm
  | x :: l, ha, hm => by
    unfold Asc at ha
    rw [List.pairwise_cons] at ha
    rw [getP]
    rcases List.mem_cons.1 hm with rfl | hm
    · rw [if_pos rfl]
    · have := ha.1 _ hm
      simp only at this
      rw [if_neg (by omega)]
      exact getP_of_mem ha.2 hm
theorem shareOf_zero {h : Int} : ∀ {l : List Pt}, (∀ x ∈ l, x.1 ≠ h) → shareOf h l = 0
  | [], _ => rfl
  | x :: l, hh => by
    rw [shareOf, if_neg (hh x (List.mem_cons_self ..)), shareOf_zero fun y hy => hh y (List.mem_cons_of_mem _ hy)]
    rfl
theorem shareOf_get {h : Int} : ∀ {l : List Pt}, Asc l → shareOf h l = (getP h l).getD 0
  | [], _ => rfl
  | x :: l, ha => by
    unfold Asc at ha
    rw [List.pairwise_cons] at ha
    rw [shareOf, getP]
    split
    · rename_i e
      rw [shareOf_zero fun y hy => by have := ha.1 y hy; omega]
      simp
    · rw [shareOf_get (l := l) ha.2]
      simp
/-- two ascending lists that say the same are the same -/
theorem asc_ext : ∀ {l m : List Pt}, Asc l → Asc m → (∀ h, getP h l = getP h m) → l = m
  | [], [], _, _, _ => rfl
  | [], x :: m, _, _, h => by
    have := h x.1
    rw [getP, getP, if_pos rfl] at this
    cases this
  | x :: l, [], _, _, h => by
    have := h x.1
    rw [getP, getP, if_pos rfl] at this
    cases this
  | x :: l, y :: m, hl, hm, h => by
    unfold Asc at hl hm
    rw [List.pairwise_cons] at hl hm
    have hx := h x.1
    have hy := h y.1
    rw [getP, if_pos rfl, getP] at hx
    rw [getP, getP, if_pos rfl] at hy
    have hxy : x.1 = y.1 := by
      rcases Int.lt_trichotomy x.1 y.1 with hlt | he | hlt
      · rw [if_neg (by omega)] at hx
        have := hm.1 _ (getP_mem hx.symm)
        simp only at this
        omega
      · exact he
      · rw [if_neg (by omega)] at hy
        have := hl.1 _ (getP_mem hy)
        simp only at this
        omega
    rw [if_pos hxy.symm] at hx
    have e : x = y := Prod.ext hxy (Option.some.inj hx)
    subst e
    congr 1
    refine asc_ext hl.2 hm.2 fun k => ?_
    have hk := h k
    rw [getP, getP] at hk
    by_cases g : x.1 = k
    · rw [getP_none_of fun z hz => by have := hl.1 z hz; omega, getP_none_of fun z hz => by have := hm.1 z hz; omega]
    · rwa [if_neg g, if_neg g] at hk
/-- the reference's add -/
def addR (h s : Int) : Bool → List Pt → List Pt
  | done, [] => if done then [] else [(h, s)]
  | done, x :: l => (if !done && decide (x.1 > h) then [(h, s)] else []) ++ ((x.1, if x.1 = h then min (x.2 + s) 1000000 else x.2) :: addR h s (done || decide (x.1 > h) || decide (x.1 = h)) l)
theorem addR_done {h s : Int} : ∀ {l : List Pt}, (∀ x ∈ l, x.1 ≠ h) → addR h s true l = l
  | [], _ => rfl
  | x :: l, hh => by
    rw [addR, if_neg (hh x (List.mem_cons_self ..))]
    simp only [Bool.not_true, Bool.false_and, Bool.false_eq_true, if_false, List.nil_append, Bool.true_or]
    rw [addR_done fun y hy => hh y (List.mem_cons_of_mem _ hy)]
theorem addR_asc {h s : Int} : ∀ {l : List Pt}, Asc l → Asc (addR h s false l) ∧ (∀ x ∈ addR h s false l, x.1 = h ∨ ∃ y ∈ l, y.1 = x.1) ∧ ∀ k, getP k (addR h s false l) = if k = h then some (match getP h l with | none => s | some u => min (u + s) 1000000) else getP k l
  | [], _ => by
    refine ⟨by simp [addR, Asc], by simp [addR], fun k => ?_⟩
    simp only [addR, Bool.false_eq_true, if_false, getP]
    by_cases hk : k = h
    · rw [if_pos hk.symm, if_pos hk]
    · rw [if_neg (fun e => hk e.symm), if_neg hk]
  | x :: l, ha => by
    have ha' := ha
    unfold Asc at ha
    rw [List.pairwise_cons] at ha
    rw [addR]
    by_cases h1 : x.1 > h
    · have hl : ∀ y ∈ l, y.1 ≠ h := fun y hy => by have := ha.1 y hy; omega
      have hx : x.1 ≠ h := by omega
      simp only [Bool.not_false, Bool.true_and, decide_eq_true h1, if_true, if_neg hx, Bool.false_or, Bool.true_or, addR_done hl, List.cons_append, List.nil_append, Prod.eta]
      refine ⟨?_, ?_, fun k => ?_⟩
      · unfold Asc
        rw [List.pairwise_cons]
        refine ⟨fun y hy => ?_, ha'⟩
        rcases List.mem_cons.1 hy with rfl | hy
        · exact h1
        · have := ha.1 y hy
          show h < y.1
          omega
      · intro y hy
        rcases List.mem_cons.1 hy with rfl | hy
        · exact .inl rfl
        · exact .inr ⟨y, hy, rfl⟩
      · rw [getP]
        have hn : getP h (x :: l) = none := by rw [getP, if_neg hx, getP_none_of hl]
        by_cases hk : k = h
        · subst hk
          rw [if_pos rfl, if_pos rfl, hn]
        · rw [if_neg (fun e => hk e.symm), if_neg hk]
    · by_cases h2 : x.1 = h
      · have hl : ∀ y ∈ l, y.1 ≠ h := fun y hy => by have := ha.1 y hy; omega
        simp only [Bool.not_false, Bool.true_and, decide_eq_false h1, decide_eq_true h2, Bool.false_eq_true, if_false, if_pos h2, Bool.false_or, addR_done hl, List.nil_append]
        refine ⟨?_, ?_, fun k => ?_⟩
        · unfold Asc
          rw [List.pairwise_cons]
          exact ⟨fun y hy => ha.1 y hy, ha.2⟩
        · intro y hy
          rcases List.mem_cons.1 hy with rfl | hy
          · exact .inl h2
          · exact .inr ⟨y, List.mem_cons_of_mem _ hy, rfl⟩
        · rw [getP, getP, if_pos h2, getP]
          by_cases hk : k = h
          · subst hk
            rw [if_pos h2, if_pos rfl]
          · rw [if_neg (fun e => hk (e.symm.trans h2)), if_neg hk, if_neg (fun e => hk (e.symm.trans h2))]
      · obtain ⟨i1, i2, i3⟩ := addR_asc (h := h) (s := s) (l := l) ha.2
        simp only [Bool.not_false, Bool.true_and, decide_eq_false h1, decide_eq_false h2, Bool.false_eq_true, if_false, if_neg h2, Bool.false_or, List.nil_append, Prod.eta]
        refine ⟨?_, ?_, fun k => ?_⟩
        · unfold Asc
          rw [List.pairwise_cons]
          refine ⟨fun y hy => ?_, i1⟩
          rcases i2 y hy with e | ⟨z, hz, e⟩
          · rw [e]; omega
          · rw [← e]; exact ha.1 z hz
        · intro y hy
          rcases List.mem_cons.1 hy with rfl | hy
          · exact .inr ⟨_, List.mem_cons_self .., rfl⟩
          · rcases i2 y hy with e | ⟨z, hz, e⟩
            · exact .inl e
            · exact .inr ⟨z, List.mem_cons_of_mem _ hz, e⟩
        · rw [getP, i3 k, getP, if_neg h2, getP]
          by_cases hk : k = h
          · subst hk
            rw [if_neg h2, if_pos rfl, if_pos rfl]
          · rw [if_neg hk, if_neg hk]
/-- the claims in effect -/
def stepC (r ro t p : Int) (l : List Pt) (f : Nat → Int) : List Pt := if effB f r ro t p then addR (f 9) (f 14) false l else l
def claimsL (r ro t p : Int) (fs : List (Nat → Int)) : List Pt := fs.foldl (stepC r ro t p) []
theorem claimsL_snoc (r ro t p : Int) (fs : List (Nat → Int)) (f : Nat → Int) : claimsL r ro t p (fs ++ [f]) = stepC r ro t p (claimsL r ro t p fs) f := by simp [claimsL]
/-- the sum of what a holder claims -/
def sumC (r ro t p h : Int) : List (Nat → Int) → Int
  | [] => 0
  | f :: l => (if effB f r ro t p && decide (f 9 = h) then f 14 else 0) + sumC r ro t p h l
theorem eff_share {f : Nat → Int} {r ro t p : Int} (h : effB f r ro t p = true) : 1 ≤ f 14 ∧ f 14 ≤ 1000000 := by
  simp only [effB, Bool.and_eq_true] at h
  exact (cntB_iff _).1 h.2.2.2
theorem sumC_nonneg (r ro t p h : Int) : ∀ fs, 0 ≤ sumC r ro t p h fs
  | [] => Int.le_refl _
  | f :: l => by
    have h1 := sumC_nonneg r ro t p h l
    rw [sumC]
    split
    · rename_i e
      rw [Bool.and_eq_true] at e
      have := eff_share e.1
      omega
    · omega
theorem sumC_append (r ro t p h : Int) : ∀ a b, sumC r ro t p h (a ++ b) = sumC r ro t p h a + sumC r ro t p h b
  | [], b => by simp [sumC]
  | f :: a, b => by rw [List.cons_append, sumC, sumC, sumC_append r ro t p h a b]; omega
theorem sumC_perm {r ro t p h : Int} {a b : List (Nat → Int)} (hp : a.Perm b) : sumC r ro t p h a = sumC r ro t p h b := by
  induction hp with
  | nil => rfl
  | cons x _ ih => rw [sumC, sumC, ih]
  | swap x y l => rw [sumC, sumC, sumC, sumC]; omega
  | trans _ _ h1 h2 => exact h1.trans h2
theorem sumC_filter (r ro t p h : Int) (q : (Nat → Int) → Bool) : ∀ fs, (∀ f ∈ fs, effB f r ro t p = true → q f = true) → sumC r ro t p h (fs.filter q) = sumC r ro t p h fs
  | [], _ => rfl
  | f :: l, hq => by
    have ih := sumC_filter r ro t p h q l fun g hg => hq g (List.mem_cons_of_mem _ hg)
    rw [List.filter_cons]
    split
    · rw [sumC, sumC, ih]
    · rename_i hf
      have : effB f r ro t p = false := by
        cases e : effB f r ro t p
        · rfl
        · exact absurd (hq f (List.mem_cons_self ..) e) hf
      rw [ih, sumC, this]
      simp
/-- what Claims says of a holder -/
theorem claims_spec (r ro t p : Int) : ∀ n (fs : List (Nat → Int)), fs.length = n → Asc (claimsL r ro t p fs) ∧ Sound (claimsL r ro t p fs) ∧ ∀ h, getP h (claimsL r ro t p fs) = if sumC r ro t p h fs = 0 then none else some (min (sumC r ro t p h fs) 1000000)
  | 0, fs, hn => by
    obtain rfl := List.length_eq_zero_iff.1 hn
    exact ⟨List.Pairwise.nil, by simp [Sound, claimsL], fun h => by simp [claimsL, getP, sumC]⟩
  | n + 1, fs, hn => by
    obtain ⟨gs, f, rfl⟩ : ∃ gs f, fs = gs ++ [f] := by
      rcases List.eq_nil_or_concat fs with rfl | ⟨gs, f, rfl⟩
      · simp at hn
      · exact ⟨gs, f, by simp⟩
    rw [List.length_append, List.length_singleton] at hn
    obtain ⟨i1, i2, i3⟩ := claims_spec r ro t p n gs (by omega)
    rw [claimsL_snoc]
    unfold stepC
    by_cases he : effB f r ro t p = true
    · rw [if_pos he]
      obtain ⟨a1, a2, a3⟩ := addR_asc (h := f 9) (s := f 14) i1
      obtain ⟨s1, s2⟩ := eff_share he
      have hg : ∀ h, getP h (addR (f 9) (f 14) false (claimsL r ro t p gs)) = if sumC r ro t p h (gs ++ [f]) = 0 then none else some (min (sumC r ro t p h (gs ++ [f])) 1000000) := fun h => by
        rw [a3 h, sumC_append, sumC, sumC, he]
        have hn := sumC_nonneg r ro t p h gs
        by_cases hh : h = f 9
        · subst hh
          rw [if_pos rfl, i3]
          simp only [decide_true, Bool.and_self, if_true]
          by_cases hz : sumC r ro t p (f 9) gs = 0
          · rw [if_pos hz, hz, if_neg (by omega)]
            simp only
            congr 1
            omega
          · rw [if_neg hz, if_neg (by omega)]
            simp only
            congr 1
            omega
        · rw [if_neg hh, i3]
          have : decide (f 9 = h) = false := decide_eq_false fun e => hh e.symm
          simp only [this, Bool.and_false, Bool.false_eq_true, if_false, Int.add_zero]
      refine ⟨a1, fun x hx => ?_, hg⟩
      have h1 := getP_of_mem (h := x.1) (s := x.2) a1 hx
      rw [hg] at h1
      have hn := sumC_nonneg r ro t p x.1 (gs ++ [f])
      split at h1
      · cases h1
      · injection h1 with h1
        omega
    · rw [if_neg he]
      refine ⟨i1, i2, fun h => ?_⟩
      rw [i3, sumC_append, sumC, sumC]
      simp [he]
theorem claims_asc (r ro t p : Int) (fs : List (Nat → Int)) : Asc (claimsL r ro t p fs) := (claims_spec r ro t p _ fs rfl).1
theorem claims_sound (r ro t p : Int) (fs : List (Nat → Int)) : Sound (claimsL r ro t p fs) := (claims_spec r ro t p _ fs rfl).2.1
theorem claims_get (r ro t p : Int) (fs : List (Nat → Int)) (h : Int) : getP h (claimsL r ro t p fs) = if sumC r ro t p h fs = 0 then none else some (min (sumC r ro t p h fs) 1000000) := (claims_spec r ro t p _ fs rfl).2.2 h
theorem claims_of_sum {r ro t p r' ro' t' p' : Int} {fs gs : List (Nat → Int)} (h : ∀ h, sumC r ro t p h fs = sumC r' ro' t' p' h gs) : claimsL r ro t p fs = claimsL r' ro' t' p' gs :=
  asc_ext (claims_asc ..) (claims_asc ..) fun k => by rw [claims_get, claims_get, h]
theorem claims_perm {r ro t p : Int} {a b : List (Nat → Int)} (hp : a.Perm b) : claimsL r ro t p a = claimsL r ro t p b := claims_of_sum fun _ => sumC_perm hp
theorem claims_len (r ro t p : Int) (fs : List (Nat → Int)) : (claimsL r ro t p fs).length ≤ fs.length := by
  have key : ∀ (fs : List (Nat → Int)) (l : List Pt), Asc l → (fs.foldl (stepC r ro t p) l).length ≤ l.length + fs.length := by
    intro fs
    induction fs with
    | nil => intro l _; exact Nat.le_refl _
    | cons f fs ih =>
      intro l hl
      have hadd : ∀ (h s : Int) (d : Bool) (l : List Pt), (addR h s d l).length ≤ l.length + if d then 0 else 1 := by
        intro h s d l
        induction l generalizing d with
        | nil => cases d <;> simp [addR]
        | cons x l il =>
          rw [addR, List.length_append, List.length_cons]
          have i1 := il true
          have i2 := il false
          simp only [Bool.false_eq_true, if_false, if_true] at i1 i2
          cases d <;> by_cases h1 : x.1 > h <;> by_cases h2 : x.1 = h <;> simp [h1, h2] <;> omega
      have h1 := hadd (f 9) (f 14) false l
      rw [List.foldl_cons]
      unfold stepC
      by_cases he : effB f r ro t p = true
      · have := ih (addR (f 9) (f 14) false l) (addR_asc hl).1
        rw [if_pos he, List.length_cons]
        unfold stepC at this
        simp at h1
        omega
      · have := ih l hl
        rw [if_neg he, List.length_cons]
        unfold stepC at this
        omega
  simpa [claimsL] using key fs [] List.Pairwise.nil
end Go.Proofs.Ytnkdpfkmellpcaa.RW

/-
  What Resolve leaves to each holder, and what a further claim changes: plain Lean, no condition beyond each theorem's own premises.
-/
import Derived.Test.YtnkdpfkmellpcaaSpP
namespace Go.Proofs.Ytnkdpfkmellpcaa.RW
/-- what is above all claims together -/
def ovr (l : List Pt) : Int := max (tot l - 1000000) 0
theorem less_get (o : Int) : ∀ {l : List Pt}, Asc l → Sound l → 0 ≤ o → Asc (okL (lessL o l)) ∧ (∀ x ∈ okL (lessL o l), ∃ y ∈ l, y.1 = x.1) ∧ ∀ h, getP h (okL (lessL o l)) = (getP h l).bind fun s => if 1 ≤ s - o then some (s - o) else none
  | [], _, _, _ => ⟨List.Pairwise.nil, by simp [lessL, okL], fun _ => rfl⟩
  | x :: l, ha, hs, ho => by
    have hx := hs x (List.mem_cons_self ..)
    unfold Asc at ha
    rw [List.pairwise_cons] at ha
    obtain ⟨i1, i2, i3⟩ := less_get o (l := l) ha.2 (fun y hy => hs y (List.mem_cons_of_mem _ hy)) ho
    have e : okL (lessL o (x :: l)) = if 1 ≤ x.2 - o then (x.1, x.2 - o) :: okL (lessL o l) else okL (lessL o l) := by
      show List.filter _ ((x.1, max (x.2 - o) 0) :: lessL o l) = _
      rw [List.filter_cons]
      by_cases h1 : 1 ≤ x.2 - o
      · rw [if_pos ((cntB_iff _).2 (by simp only; omega)), if_pos h1, show max (x.2 - o) 0 = x.2 - o by omega]
        rfl
      · rw [if_neg (by rw [cntB_iff]; simp only; omega), if_neg h1]
        rfl
    rw [e]
    by_cases h1 : 1 ≤ x.2 - o
    · rw [if_pos h1]
      refine ⟨?_, ?_, fun h => ?_⟩
      · unfold Asc
        rw [List.pairwise_cons]
        refine ⟨fun y hy => ?_, i1⟩
        obtain ⟨z, hz, hzy⟩ := i2 y hy
        rw [← hzy]
        exact ha.1 z hz
      · intro y hy
        rcases List.mem_cons.1 hy with rfl | hy
        · exact ⟨x, List.mem_cons_self .., rfl⟩
        · obtain ⟨z, hz, hzy⟩ := i2 y hy
          exact ⟨z, List.mem_cons_of_mem _ hz, hzy⟩
      · rw [getP, getP, i3]
        by_cases hh : x.1 = h
        · rw [if_pos hh, if_pos hh, Option.bind_some, if_pos h1]
        · rw [if_neg hh, if_neg hh]
    · rw [if_neg h1]
      refine ⟨i1, fun y hy => ?_, fun h => ?_⟩
      · obtain ⟨z, hz, hzy⟩ := i2 y hy
        exact ⟨z, List.mem_cons_of_mem _ hz, hzy⟩
      · rw [getP, i3]
        by_cases hh : x.1 = h
        · rw [if_pos hh, Option.bind_some, if_neg h1, getP_none_of fun z hz => by have := ha.1 z hz; omega]
          rfl
        · rw [if_neg hh]
theorem resolve_get {l : List Pt} (ha : Asc l) (hs : Sound l) : Asc (resolve l).1 ∧ (∀ h, getP h (resolve l).1 = (getP h l).bind fun s => if 1 ≤ s - ovr l then some (s - ovr l) else none) ∧ (resolve l).2.2 = max (1000000 - tot l) 0 := by
  have hk := okL_of hs
  by_cases h : tot l ≤ 1000000
  · have ho : ovr l = 0 := by unfold ovr; omega
    rw [resolve_small (by rw [hk]; exact h), hk, ho]
    refine ⟨ha, fun k => ?_, by simp only; omega⟩
    cases hg : getP k l with
    | none => rfl
    | some s =>
      have := hs _ (getP_mem hg)
      simp only at this
      rw [Option.bind_some, Int.sub_zero, if_pos this.1]
  · have ho : ovr l = tot l - 1000000 := by unfold ovr; omega
    rw [resolve_big (by rw [hk]; omega), hk, ho]
    obtain ⟨h1, _, h3⟩ := less_get (tot l - 1000000) ha hs (by omega)
    exact ⟨h1, h3, by simp only; omega⟩
theorem addR_tot (h s : Int) (hs : 1 ≤ s) : ∀ (d : Bool) {l : List Pt}, Sound l → tot l ≤ tot (addR h s d l)
  | d, [], _ => by cases d <;> simp [addR, tot]; omega
  | d, x :: l, hl => by
    have hx := hl x (List.mem_cons_self ..)
    have ih := addR_tot h s hs (d || decide (x.1 > h) || decide (x.1 = h)) (l := l) fun y hy => hl y (List.mem_cons_of_mem _ hy)
    rw [addR, tot_append, tot, tot]
    have h1 : 0 ≤ tot (if !d && decide (x.1 > h) then [(h, s)] else []) := by
      split
      · simp [tot]; omega
      · exact Int.le_refl _
    have h2 : x.2 ≤ (if x.1 = h then min (x.2 + s) 1000000 else x.2) := by split <;> omega
    simp only
    omega
/-- no holder gets more than the claims -/
theorem part_le {l : List Pt} (ha : Asc l) (hs : Sound l) {x : Pt} (hx : x ∈ (resolve l).1) : x.2 ≤ shareOf x.1 l := by
  obtain ⟨h1, h2, _⟩ := resolve_get ha hs
  have hg := getP_of_mem (h := x.1) (s := x.2) h1 hx
  rw [h2] at hg
  rw [shareOf_get ha]
  cases hl : getP x.1 l with
  | none => rw [hl] at hg; cases hg
  | some s =>
    rw [hl, Option.bind_some] at hg
    have : 0 ≤ ovr l := by unfold ovr; omega
    split at hg
    · injection hg with hg
      simp only [Option.getD_some]
      omega
    · cases hg
/-- a further claim -/
theorem further {r ro t p : Int} {fs : List (Nat → Int)} {f : Nat → Int} :
    (∀ x ∈ (resolve (claimsL r ro t p (fs ++ [f]))).1, x.1 ≠ f 9 → x.2 ≤ shareOf x.1 (resolve (claimsL r ro t p fs)).1) ∧ (resolve (claimsL r ro t p (fs ++ [f]))).2.2 ≤ (resolve (claimsL r ro t p fs)).2.2 := by
  have ha := claims_asc r ro t p fs
  have hs := claims_sound r ro t p fs
  have ha' := claims_asc r ro t p (fs ++ [f])
  have hs' := claims_sound r ro t p (fs ++ [f])
  have hget : ∀ h, h ≠ f 9 → getP h (claimsL r ro t p (fs ++ [f])) = getP h (claimsL r ro t p fs) := fun h hh => by
    rw [claimsL_snoc, stepC]
    split
    · rw [(addR_asc ha).2.2 h, if_neg hh]
    · rfl
  have htot : tot (claimsL r ro t p fs) ≤ tot (claimsL r ro t p (fs ++ [f])) := by
    rw [claimsL_snoc, stepC]
    split
    · rename_i he
      exact addR_tot _ _ (eff_share he).1 _ hs
    · exact Int.le_refl _
  obtain ⟨a1, a2, a3⟩ := resolve_get ha hs
  obtain ⟨b1, b2, b3⟩ := resolve_get ha' hs'
  refine ⟨fun x hx hne => ?_, by rw [a3, b3]; omega⟩
  have hg := getP_of_mem (h := x.1) (s := x.2) b1 hx
  rw [b2, hget _ hne] at hg
  rw [shareOf_get a1, a2]
  cases hl : getP x.1 (claimsL r ro t p fs) with
  | none => rw [hl] at hg; cases hg
  | some s =>
    rw [hl, Option.bind_some] at hg
    rw [Option.bind_some]
    have ho : ovr (claimsL r ro t p fs) ≤ ovr (claimsL r ro t p (fs ++ [f])) := by unfold ovr; omega
    split at hg
    · rename_i h1
      injection hg with hg
      rw [if_pos (by omega), Option.getD_some]
      omega
    · cases hg
theorem resolve_len (l : List Pt) : (resolve l).1.length ≤ l.length := by
  rw [resolve]
  split
  · exact List.length_filter_le ..
  · refine Nat.le_trans (List.length_filter_le ..) ?_
    rw [lessL, List.length_map]
    exact List.length_filter_le ..
end Go.Proofs.Ytnkdpfkmellpcaa.RW

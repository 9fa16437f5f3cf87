/-
  Claims of the whole world, withdrawn claims: plain Lean, no condition beyond each theorem's own premises.
-/
import Derived.Test.YtnkdpfkmellpcaaSp15
namespace Go.Proofs.Ytnkdpfkmellpcaa.RW
theorem bit255 {t : Int} (h1 : 0 ≤ t) (h2 : t < 8) : bitI 255 t = 1 := by
  have h : t = 0 ∨ t = 1 ∨ t = 2 ∨ t = 3 ∨ t = 4 ∨ t = 5 ∨ t = 6 ∨ t = 7 := by omega
  rcases h with rfl | rfl | rfl | rfl | rfl | rfl | rfl | rfl <;> rfl
theorem claimF_eff (id h s : Int) {t p : Int} (h1 : 0 ≤ t) (h2 : t < 8) (h3 : 0 ≤ p) (h4 : p < 1200) : effB (claimF id h s) 3 1 t p = cntB s := by
  have e8 : claimF id h s 8 = 255 := rfl
  have e7 : claimF id h s 7 = 3 := rfl
  have e10 : claimF id h s 10 = 1 := rfl
  have e11 : claimF id h s 11 = 0 := rfl
  have e12 : claimF id h s 12 = 1200 := rfl
  have e14 : claimF id h s 14 = s := rfl
  rw [effB, inB, e8, e7, e10, e11, e12, e14, bit255 h1 h2]
  simp [h1, h2, h3, h4]
def AllC (fs : List (Nat → Int)) : Prop := ∀ f ∈ fs, ∃ id h s, f = claimF id h s
theorem sumC_wd (h : Int) {t p t' p' : Int} (h1 : 0 ≤ t) (h2 : t < 8) (h3 : 0 ≤ p) (h4 : p < 1200) (h1' : 0 ≤ t') (h2' : t' < 8) (h3' : 0 ≤ p') (h4' : p' < 1200) : ∀ fs, AllC fs → sumC 3 1 t p h fs = sumC 3 1 t' p' h fs
  | [], _ => rfl
  | f :: fs, hA => by
    obtain ⟨id, k, s, rfl⟩ := hA f (List.mem_cons_self ..)
    rw [sumC, sumC, claimF_eff id k s h1 h2 h3 h4, claimF_eff id k s h1' h2' h3' h4', sumC_wd h h1 h2 h3 h4 h1' h2' h3' h4' fs fun g hg => hA g (List.mem_cons_of_mem _ hg)]
theorem claims_wd {t p : Int} (h1 : 0 ≤ t) (h2 : t < 8) (h3 : 0 ≤ p) (h4 : p < 1200) {fs : List (Nat → Int)} (hA : AllC fs) : claimsL 3 1 t p fs = claimsL 3 1 0 0 fs :=
  claims_of_sum fun h => sumC_wd h h1 h2 h3 h4 (by decide) (by decide) (by decide) (by decide) fs hA
/-- two claims -/
def twoF (one two s : Int) : List Fc := [(claimF 1 one 1000000, ⟨#[]⟩), (claimF 2 two s, ⟨#[]⟩)]
theorem claims_two (one two s : Int) : claimsL 3 1 0 0 ((twoF one two s).map (·.1)) = if cntB s = true then addR two s false [(one, 1000000)] else [(one, 1000000)] := by
  have e1 := claimF_eff 1 one 1000000 (t := 0) (p := 0) (by decide) (by decide) (by decide) (by decide)
  have e2 := claimF_eff 2 two s (t := 0) (p := 0) (by decide) (by decide) (by decide) (by decide)
  show stepC 3 1 0 0 (stepC 3 1 0 0 [] (claimF 1 one 1000000)) (claimF 2 two s) = _
  rw [stepC, stepC, e1, e2, if_pos (show cntB 1000000 = true by decide)]
  rfl
theorem wd_left (one two : Int) : resolve (claimsL 3 1 0 0 ((twoF one two 0).map (·.1))) = ([(one, 1000000)], 0, 0) := by
  rw [claims_two, if_neg (by decide)]
  rfl
theorem wd_both {one two : Int} (h : one ≠ two) : resolve (claimsL 3 1 0 0 ((twoF one two 1000000).map (·.1))) = ([], 1000000, 0) := by
  rw [claims_two, if_pos (by decide)]
  by_cases h1 : one > two
  · have e : addR two 1000000 false [(one, 1000000)] = [(two, 1000000), (one, 1000000)] := by
      simp [addR, h1, h]
    rw [e]
    rfl
  · have e : addR two 1000000 false [(one, 1000000)] = [(one, 1000000), (two, 1000000)] := by
      simp [addR, h1, h]
    rw [e]
    rfl
end Go.Proofs.Ytnkdpfkmellpcaa.RW

/-
  Ballot, the plain side: what is encoded is decoded; what is decoded was encoded; neither a proper prefix nor further bytes are accepted: no program in sight.
-/
import Derived.Test.YtcbckcojebanaaaDoorBalP
namespace Go.Proofs.YtcbckcojebanaaaDoor.RW
open Go Go.RowKit
theorem decNs_append : ∀ (k j : Nat) (f : Nat → Int) (r m : List UInt8) (g : Nat → Int) (r' : List UInt8), decNs k j f r = some (g, r') → decNs k j f (r ++ m) = some (g, r' ++ m)
  | 0, j, f, r, m, g, r', h => by
    rw [decNs] at h ⊢
    simp at h
    obtain ⟨rfl, rfl⟩ := h
    rfl
  | k + 1, j, f, r, m, g, r', h => by
    rw [decNs] at h ⊢
    rcases hI : decI r with _ | ⟨n, c⟩
    · rw [hI] at h; cases h
    · rw [hI] at h
      simp only at h
      have hk := decI_le _ _ _ hI
      rw [decI_append r m n c hI]
      simp only
      rw [List.drop_append_of_le_length hk.2.1]
      exact decNs_append k (j + 1) _ _ m _ _ h
theorem decNs_take : ∀ (k j : Nat) (f : Nat → Int) (r : List UInt8) (g : Nat → Int) (r' : List UInt8), decNs k j f r = some (g, r') →
    r = (List.range k).flatMap (fun i => putI (g (j + i))) ++ r' ∧ ∀ i, i < j → g i = f i
  | 0, j, f, r, g, r', h => by
    rw [decNs] at h
    simp at h
    obtain ⟨rfl, rfl⟩ := h
    simp
  | k + 1, j, f, r, g, r', h => by
    rw [decNs] at h
    rcases hI : decI r with _ | ⟨n, c⟩
    · rw [hI] at h; cases h
    · rw [hI] at h
      simp only at h
      obtain ⟨h1, h2⟩ := decNs_take k (j + 1) _ _ _ _ h
      have h3 := h2 j (by omega)
      simp only [if_true] at h3
      have e : (List.range (k + 1)).flatMap (fun i => putI (g (j + i))) = putI (g j) ++ (List.range k).flatMap (fun i => putI (g (j + 1 + i))) := by
        rw [List.range_succ_eq_map, List.flatMap_cons, List.flatMap_map]
        simp only [Nat.add_zero]
        congr 2
        funext i
        rw [show j + Nat.succ i = j + 1 + i by omega]
      refine ⟨?_, fun i hi => ?_⟩
      · rw [e, List.append_assoc, ← h1, h3, ← decI_take r n c hI, List.take_append_drop]
      · rw [h2 i (by omega), if_neg (by omega)]
/-- a message's numbers, nothing beyond -/
def six (n : Nat → Int) (i : Nat) : Int := if i < 6 then n i else 0
theorem msgB_congr (K f g : Nat → Int) (d : List UInt8) (l : List (List UInt8)) (h : ∀ i, i < 6 → f i = g i) : msgB K f d l = msgB K g d l := by
  unfold msgB placedB plainB
  rw [h 0 (by decide), h 1 (by decide), h 2 (by decide), h 3 (by decide), h 4 (by decide), h 5 (by decide)]
theorem encN_congr (f g : Nat → Int) : ∀ j, (∀ i, i < j → f i = g i) → encN f j = encN g j
  | 0, _ => rfl
  | j + 1, h => by rw [encN_succ, encN_succ, encN_congr f g j (fun i hi => h i (by omega)), h j (by omega)]
/-- what a valid message's parts are bounded by -/
theorem msgB_lims (K n : Nat → Int) (d : List UInt8) (l : List (List UInt8)) (h : msgB K n d l = true) : (∀ i, i < 6 → -4611686018427387903 ≤ n i ∧ n i ≤ 4611686018427387903) ∧ (l.length ≤ 4000) := by
  unfold msgB at h
  simp only [Bool.and_eq_true] at h
  obtain ⟨⟨⟨h1, h2⟩, _⟩, h4⟩ := h
  simp only [site, decide_eq_true_iff] at h1 h2
  have key : (1 ≤ n 0 ∧ n 0 ≤ 6) ∧ (0 ≤ n 3 ∧ n 3 ≤ 1200) ∧ (0 ≤ n 4 ∧ n 4 ≤ 100) ∧ (-1 ≤ n 5 ∧ n 5 ≤ 100) ∧ l.length ≤ 4000 := by
    split at h4
    · simp only [plainB, Bool.and_eq_true, decide_eq_true_iff] at h4
      omega
    · split at h4
      · simp only [plainB, asc, Bool.and_eq_true, decide_eq_true_iff] at h4
        omega
      · split at h4
        · simp only [placedB, asc, Bool.and_eq_true, decide_eq_true_iff] at h4
          omega
        · split at h4
          · rename_i hv
            simp only [voteK, decide_eq_true_iff] at hv
            simp only [placedB, Bool.and_eq_true, decide_eq_true_iff, List.isEmpty_iff] at h4
            have hl : l.length = 0 := by rw [h4.1.2]; rfl
            omega
          · cases h4
  refine ⟨fun i hi => ?_, by omega⟩
  have : i = 0 ∨ i = 1 ∨ i = 2 ∨ i = 3 ∨ i = 4 ∨ i = 5 := by omega
  rcases this with rfl | rfl | rfl | rfl | rfl | rfl <;> omega
theorem encN_flat (n : Nat → Int) (j : Nat) : encN n j = (List.range j).flatMap (fun i => putI (n (0 + i))) := by
  unfold encN; simp
theorem decM_enc (K n : Nat → Int) (d : List UInt8) (l : List (List UInt8)) (hv : msgB K n d l = true) (hd : d.length ≤ 65536) (hl : ∀ s ∈ l, s.length ≤ 65536) :
    ∃ g, decM K (encM n d l) = .msg g d l ∧ ∀ i, i < 6 → g i = n i := by
  obtain ⟨h1, h2⟩ := msgB_lims K n d l hv
  obtain ⟨g, hg, hgi⟩ := decNs_enc (six n) (fun _ => 0) (putS d ++ (putI l.length ++ (l.flatMap putS ++ []))) (fun i => by
    unfold six
    by_cases hi : i < 6
    · rw [if_pos hi]; exact h1 i hi
    · rw [if_neg hi]; omega) 6 0 (fun i hi => by omega)
  have hgi' : ∀ i, i < 6 → g i = n i := fun i hi => by rw [hgi i (by omega)]; unfold six; rw [if_pos hi]
  have e : encM n d l = (List.range 6).flatMap (fun i => putI (six n (0 + i))) ++ (putS d ++ (putI l.length ++ (l.flatMap putS ++ []))) := by
    unfold encM
    rw [encN_congr n (six n) 6 (fun i hi => by unfold six; rw [if_pos hi]), encN_flat]
    simp [List.append_assoc]
  refine ⟨g, ?_, hgi'⟩
  unfold decM
  rw [e, hg]
  simp only
  rw [decS_putS d _ hd]
  simp only [List.drop_left]
  rw [decI_putI l.length (by omega) (by omega)]
  simp only
  rw [if_neg (by omega)]
  simp only [List.drop_left, Int.toNat_natCast]
  rw [decL_put l [] hl]
  simp only [ne_eq, not_true_eq_false, if_false]
  rw [msgB_congr K g n d l hgi', if_pos hv]
/-- whatever is accepted was encoded -/
theorem decM_take (K : Nat → Int) (s : List UInt8) (n : Nat → Int) (d : List UInt8) (l : List (List UInt8)) (h : decM K s = .msg n d l) : s = encM n d l ∧ msgB K n d l = true ∧ d.length ≤ 65536 ∧ ∀ t ∈ l, t.length ≤ 65536 := by
  unfold decM at h
  rcases h1 : decNs 6 0 (fun _ => 0) s with _ | ⟨f, r⟩
  · rw [h1] at h; cases h
  · rw [h1] at h
    simp only at h
    rcases h2 : decS r with _ | ⟨d', c⟩
    · rw [h2] at h; cases h
    · rw [h2] at h
      simp only at h
      rcases h3 : decI (r.drop c) with _ | ⟨m, c2⟩
      · rw [h3] at h; cases h
      · rw [h3] at h
        simp only at h
        split at h
        · cases h
        · rename_i hm
          rcases h4 : decL m.toNat ((r.drop c).drop c2) with _ | ⟨l', r'⟩
          · rw [h4] at h; cases h
          · rw [h4] at h
            simp only at h
            split at h
            · cases h
            · rename_i hr
              split at h
              · rename_i hb
                injection h with e1 e2 e3
                subst e1 e2 e3
                obtain ⟨t1, _⟩ := decNs_take 6 0 _ s f r h1
                obtain ⟨t2, t3⟩ := decS_take r d' c h2
                have t4 := decI_take _ _ _ h3
                obtain ⟨t5, t6, t7⟩ := decL_take _ _ _ _ h4
                refine ⟨?_, hb, t3, t7⟩
                have hr' : r' = [] := by simpa using hr
                rw [hr', List.append_nil] at t5
                have hm2 : ((l'.length : Nat) : Int) = m := by omega
                unfold encM
                rw [encN_flat, hm2, ← t5, ← t4, List.append_assoc, List.append_assoc, List.take_append_drop, ← t2, List.take_append_drop]
                exact t1
              · cases h
/-- a proper prefix of an encoding is not accepted -/
theorem decM_prefix (K n : Nat → Int) (d : List UInt8) (l : List (List UInt8)) (hv : msgB K n d l = true) (hd : d.length ≤ 65536) (hl : ∀ s ∈ l, s.length ≤ 65536) (p m : List UInt8) (hp : p ++ m = encM n d l) (hm : m ≠ []) : decM K p = .wire := by
  obtain ⟨g, he, hgi⟩ := decM_enc K n d l hv hd hl
  unfold decM
  rcases h1 : decNs 6 0 (fun _ => 0) p with _ | ⟨f, r⟩
  · rfl
  · simp only
    have a1 := decNs_append 6 0 _ p m _ _ h1
    rw [hp] at a1
    unfold decM at he
    rw [a1] at he
    simp only at he
    rcases h2 : decS r with _ | ⟨d', c⟩
    · rfl
    · simp only
      rw [decS_append r m d' c h2] at he
      simp only at he
      have hc : c ≤ r.length := (decS_len r d' c h2)
      rw [List.drop_append_of_le_length hc] at he
      rcases h3 : decI (r.drop c) with _ | ⟨x, c2⟩
      · rfl
      · simp only
        have hk := decI_le _ _ _ h3
        rw [decI_append _ m x c2 h3] at he
        simp only at he
        split at he
        · cases he
        · rename_i hx
          rw [if_neg hx]
          rw [List.drop_append_of_le_length hk.2.1] at he
          rcases h4 : decL x.toNat ((r.drop c).drop c2) with _ | ⟨l', r'⟩
          · rfl
          · rw [decL_append _ _ m _ _ h4] at he
            simp only at he
            have : r' ++ m ≠ [] := by simp [hm]
            rw [if_pos this] at he
            cases he
/-- further bytes behind an encoding are not accepted -/
theorem decM_more (K n : Nat → Int) (d : List UInt8) (l : List (List UInt8)) (hv : msgB K n d l = true) (hd : d.length ≤ 65536) (hl : ∀ s ∈ l, s.length ≤ 65536) (m : List UInt8) (hm : m ≠ []) : decM K (encM n d l ++ m) = .wire := by
  obtain ⟨g, he, hgi⟩ := decM_enc K n d l hv hd hl
  unfold decM at he ⊢
  rcases h1 : decNs 6 0 (fun _ => 0) (encM n d l) with _ | ⟨f, r⟩
  · rw [h1] at he; cases he
  · rw [h1] at he
    rw [decNs_append 6 0 _ _ m _ _ h1]
    simp only at he ⊢
    rcases h2 : decS r with _ | ⟨d', c⟩
    · rw [h2] at he; cases he
    · rw [h2] at he
      rw [decS_append r m d' c h2]
      simp only at he ⊢
      rw [List.drop_append_of_le_length (decS_len r d' c h2)]
      rcases h3 : decI (r.drop c) with _ | ⟨x, c2⟩
      · rw [h3] at he; cases he
      · rw [h3] at he
        have hk := decI_le _ _ _ h3
        rw [decI_append _ m x c2 h3]
        simp only at he ⊢
        split at he
        · cases he
        · rename_i hx
          rw [if_neg hx, List.drop_append_of_le_length hk.2.1]
          rcases h4 : decL x.toNat ((r.drop c).drop c2) with _ | ⟨l', r'⟩
          · rw [h4] at he; cases he
          · rw [decL_append _ _ m _ _ h4]
            simp only
            rw [if_pos (by simp [hm])]
end Go.Proofs.YtcbckcojebanaaaDoor.RW

/-
  Ballot, the plain side: how long a valid message's strings are: no program in sight.
-/
import Derived.Test.YtcbckcojebanaaaDoorMZ3
import Derived.Test.YtcbckcojebanaaaDoorMZ4
import Derived.Shelf.Strings.Builder1
import Derived.Shelf.Small.Strs
import Derived.Test.YtcbckcojebanaaaDoorMA
import Derived.Test.YtcbckcojebanaaaDoorProg
import Derived.Test.YtcbckcojebanaaaDoorBal8
namespace Go.Proofs.YtcbckcojebanaaaDoor.RW
open Go Go.RowKit
theorem bsha_len (K : Nat → Int) (l : List UInt8) : (sha K l).length = 32 := by simp [sha, dig]
theorem msgB_short (K n : Nat → Int) (d : List UInt8) (l : List (List UInt8)) (h : msgB K n d l = true) : d.length ≤ 32 ∧ ∀ s ∈ l, s.length ≤ 4000 := by
  have hnear : site (n 1) = true ∧ site (n 2) = true ∧ n 1 ≠ n 2 := Classical.byContradiction fun g => by rw [msgB_far g] at h; cases h
  rw [msgB_near hnear] at h
  split at h
  · simp only [plainB, Bool.and_eq_true, List.isEmpty_iff, List.all_eq_true, decide_eq_true_eq] at h
    refine ⟨by rw [h.1.1.2]; simp, fun s hs => (h.2 s hs).2⟩
  · split at h
    · simp only [plainB, Bool.and_eq_true, List.isEmpty_iff] at h
      refine ⟨by rw [h.1.1.2]; simp, fun s hs => ?_⟩
      have := (asc_lims h.2).2.2 s hs
      omega
    · split at h
      · simp only [Bool.and_eq_true, beq_iff_eq] at h
        refine ⟨by rw [h.2, bsha_len]; exact Nat.le_refl _, fun s hs => ?_⟩
        have := (asc_lims h.1.1.2).2.2 s hs
        omega
      · split at h
        · simp only [Bool.and_eq_true, Bool.or_eq_true, List.isEmpty_iff, beq_iff_eq] at h
          refine ⟨?_, fun s hs => by rw [h.1.2] at hs; cases hs⟩
          rcases h.2 with g | g
          · rw [g]; simp
          · omega
        · cases h
end Go.Proofs.YtcbckcojebanaaaDoor.RW

/-
  Ballot, the plain side: a message read step by step is the message that decM reads: no program in sight.
-/
namespace Go.Proofs.YtcbckcojebanaaaDoor.RW
open Go Go.RowKit
def upd (f : Nat → Int) (j : Nat) (n : Int) (i : Nat) : Int := if i = j then n else f i
def rdN (l : List UInt8) : Nat → (Nat → Int) × Nat × Bool
  | 0 => (fun _ => 0, 0, false)
  | j + 1 => (upd (rdN l j).1 j (rdI l (rdN l j).2).1, (rdI l (rdN l j).2).2)
def rdL (l : List UInt8) (p : Nat × Bool) : Nat → List (List UInt8) × Nat × Bool
  | 0 => ([], p)
  | i + 1 => ((rdL l p i).1 ++ [(rdS l (rdL l p i).2).1], (rdS l (rdL l p i).2).2)
theorem rdI_le (l : List UInt8) (p : Nat × Bool) (h : p.1 ≤ l.length) : (rdI l p).2.1 ≤ l.length := by
  obtain ⟨a, b⟩ := p
  cases b with
  | true => exact h
  | false =>
    simp only [rdI]
    rcases hD : decI (l.drop a) with _ | ⟨n, k⟩
    · simp
    · have := decI_le _ _ _ hD
      have h2 : (l.drop a).length = l.length - a := by simp
      simp only
      have : a ≤ l.length := h
      omega
theorem rdS_le (l : List UInt8) (p : Nat × Bool) (h : p.1 ≤ l.length) : (rdS l p).2.1 ≤ l.length := by
  obtain ⟨a, b⟩ := p
  cases b with
  | true => exact h
  | false =>
    simp only [rdS]
    rcases hD : decS (l.drop a) with _ | ⟨n, k⟩
    · simp
    · have := decS_len _ _ _ hD
      have h2 : (l.drop a).length = l.length - a := by simp
      simp only
      have : a ≤ l.length := h
      omega
theorem rdS_short (l : List UInt8) (p : Nat × Bool) : (rdS l p).1.length ≤ 65536 := by
  obtain ⟨a, b⟩ := p
  cases b with
  | true => simp [rdS]
  | false =>
    simp only [rdS]
    rcases hD : decS (l.drop a) with _ | ⟨n, k⟩
    · simp
    · exact (decS_take _ _ _ hD).2
theorem rdN_le (l : List UInt8) : ∀ j, (rdN l j).2.1 ≤ l.length
  | 0 => Nat.zero_le _
  | j + 1 => rdI_le l _ (rdN_le l j)
theorem rdL_le (l : List UInt8) (p : Nat × Bool) (h : p.1 ≤ l.length) : ∀ i, (rdL l p i).2.1 ≤ l.length
  | 0 => h
  | i + 1 => rdS_le l _ (rdL_le l p h i)
theorem rdL_len (l : List UInt8) (p : Nat × Bool) : ∀ i, (rdL l p i).1.length = i
  | 0 => rfl
  | i + 1 => by rw [rdL, List.length_append, rdL_len l p i]; rfl
theorem rdL_short (l : List UInt8) (p : Nat × Bool) : ∀ i, ∀ s ∈ (rdL l p i).1, s.length ≤ 65536
  | 0, s, hs => by cases hs
  | i + 1, s, hs => by
    rw [rdL] at hs
    rcases List.mem_append.1 hs with hs | hs
    · exact rdL_short l p i s hs
    · rw [List.mem_singleton] at hs; subst hs; exact rdS_short l _
theorem rdI_bad (l : List UInt8) (p : Nat × Bool) (h : p.2 = true) : rdI l p = (0, p) := by obtain ⟨a, b⟩ := p; cases h; rfl
theorem rdS_bad (l : List UInt8) (p : Nat × Bool) (h : p.2 = true) : rdS l p = ([], p) := by obtain ⟨a, b⟩ := p; cases h; rfl
theorem rdI_none (l : List UInt8) (a : Nat) (h : decI (l.drop a) = none) : rdI l (a, false) = (0, 0, true) := by simp only [rdI, h]
theorem rdI_some (l : List UInt8) (a : Nat) (n : Int) (k : Nat) (h : decI (l.drop a) = some (n, k)) : rdI l (a, false) = (n, a + k, false) := by simp only [rdI, h]
theorem rdS_none (l : List UInt8) (a : Nat) (h : decS (l.drop a) = none) : rdS l (a, false) = ([], 0, true) := by simp only [rdS, h]
theorem rdS_some (l : List UInt8) (a : Nat) (n : List UInt8) (k : Nat) (h : decS (l.drop a) = some (n, k)) : rdS l (a, false) = (n, a + k, false) := by simp only [rdS, h]
theorem decNs_none (k j : Nat) (f : Nat → Int) (r : List UInt8) (h : decI r = none) : decNs (k + 1) j f r = none := by rw [decNs, h]
theorem decNs_some (k j : Nat) (f : Nat → Int) (r : List UInt8) (n : Int) (c : Nat) (h : decI r = some (n, c)) : decNs (k + 1) j f r = decNs k (j + 1) (upd f j n) (r.drop c) := by rw [decNs, h]; rfl
/-- the numbers, read one by one -/
theorem rdN_spec (l : List UInt8) : ∀ j, j ≤ 6 →
    ((rdN l j).2.2 = true ∧ decNs 6 0 (fun _ => 0) l = none) ∨ ((rdN l j).2.2 = false ∧ decNs 6 0 (fun _ => 0) l = decNs (6 - j) j (rdN l j).1 (l.drop (rdN l j).2.1))
  | 0, _ => .inr ⟨rfl, rfl⟩
  | j + 1, h => by
    rcases rdN_spec l j (by omega) with ⟨h1, h2⟩ | ⟨h1, h2⟩
    · refine .inl ⟨?_, h2⟩
      rw [rdN, rdI_bad l _ h1]
      exact h1
    · revert h1 h2
      rcases hr : rdN l j with ⟨f, a, b⟩
      intro h1 h2
      simp only at h1 h2
      subst h1
      rw [rdN, hr]
      rcases hD : decI (l.drop a) with _ | ⟨n, k⟩
      · rw [rdI_none l a hD]
        exact .inl ⟨rfl, by rw [h2, show 6 - j = 6 - (j + 1) + 1 by omega, decNs_none _ _ _ _ hD]⟩
      · rw [rdI_some l a n k hD]
        refine .inr ⟨rfl, ?_⟩
        rw [h2, show 6 - j = 6 - (j + 1) + 1 by omega, decNs_some _ _ _ _ n k hD, List.drop_drop]
/-- the strings, read one by one -/
theorem rdL_spec (l : List UInt8) (a0 m : Nat) : ∀ i, i ≤ m → (∀ j, j < i → (rdL l (a0, false) j).2.2 = false) →
    ((rdL l (a0, false) i).2.2 = true ∧ decL m (l.drop a0) = none) ∨ ((rdL l (a0, false) i).2.2 = false ∧ decL m (l.drop a0) = match decL (m - i) (l.drop (rdL l (a0, false) i).2.1) with | none => none | some (t, r) => some ((rdL l (a0, false) i).1 ++ t, r))
  | 0, _, _ => .inr ⟨rfl, by
    show _ = match decL m (l.drop a0) with | none => none | some (t, r) => some ([] ++ t, r)
    cases decL m (l.drop a0) with
    | none => rfl
    | some x => rfl⟩
  | i + 1, h, hg => by
    rcases rdL_spec l a0 m i (by omega) (fun j hj => hg j (by omega)) with ⟨h1, _⟩ | ⟨h1, h2⟩
    · rw [hg i (by omega)] at h1; cases h1
    · revert h1 h2
      rcases hr : rdL l (a0, false) i with ⟨f, a, b⟩
      intro h1 h2
      simp only at h1 h2
      subst h1
      rw [show m - i = m - (i + 1) + 1 by omega, decL] at h2
      rw [rdL, hr]
      rcases hD : decS (l.drop a) with _ | ⟨n, k⟩
      · rw [hD] at h2
        rw [rdS_none l a hD]
        exact .inl ⟨rfl, h2⟩
      · rw [hD] at h2
        rw [rdS_some l a n k hD]
        refine .inr ⟨rfl, ?_⟩
        rw [h2]
        simp only [List.drop_drop]
        cases decL (m - (i + 1)) (l.drop (a + k)) with
        | none => rfl
        | some x => simp
theorem rdI_zero (l : List UInt8) (p : Nat × Bool) (h : (rdI l p).2.2 = true) : (rdI l p).1 = 0 := by
  obtain ⟨a, b⟩ := p
  cases b with
  | true => rfl
  | false =>
    simp only [rdI] at h ⊢
    rcases hD : decI (l.drop a) with _ | ⟨n, k⟩
    · rfl
    · rw [hD] at h; cases h
/-- the six numbers, the digest, the number of strings -/
def dF (l : List UInt8) : Nat → Int := (rdN l 6).1
def dP6 (l : List UInt8) : Nat × Bool := (rdN l 6).2
def dD (l : List UInt8) : List UInt8 := (rdS l (dP6 l)).1
def dP7 (l : List UInt8) : Nat × Bool := (rdS l (dP6 l)).2
def dN (l : List UInt8) : Int := (rdI l (dP7 l)).1
def dP8 (l : List UInt8) : Nat × Bool := (rdI l (dP7 l)).2
def dOver (l : List UInt8) : Bool := !(dP8 l).2 && decide (dN l < 0 ∨ 4000 < dN l)
/-- the reading of strings ends at i -/
def dStop (l : List UInt8) (i : Nat) : Prop := (i = 0 ∨ (i : Int) ≤ dN l) ∧ (∀ j, j < i → (rdL l (dP8 l) j).2.2 = false) ∧ (¬ (i : Int) < dN l ∨ (rdL l (dP8 l) i).2.2 = true)
theorem decM_over (K : Nat → Int) (l : List UInt8) (h : dOver l = true) : decM K l = .bad := by
  unfold dOver at h
  simp only [Bool.and_eq_true, Bool.not_eq_true', decide_eq_true_eq] at h
  obtain ⟨h8, hn⟩ := h
  unfold decM
  rcases rdN_spec l 6 (by omega) with ⟨h1, _⟩ | ⟨h1, h2⟩
  · rw [dP8, dP7, dP6] at h8
    rw [rdS_bad l _ h1, rdI_bad l _ h1, h1] at h8
    cases h8
  · revert h1 h2 h8 hn
    unfold dP8 dN dP7 dP6
    rcases hr : rdN l 6 with ⟨f, a, b⟩
    simp only
    intro h8 hn h1 h2
    subst h1
    rw [Nat.sub_self, decNs] at h2
    rw [h2]
    simp only
    rcases hD : decS (l.drop a) with _ | ⟨d, k⟩
    · rw [rdS_none l a hD] at h8
      rw [rdI_bad l _ rfl] at h8
      cases h8
    · rw [rdS_some l a d k hD] at h8 hn
      simp only at h8 hn ⊢
      rw [List.drop_drop]
      rcases hI : decI (l.drop (a + k)) with _ | ⟨m, c⟩
      · rw [rdI_none l _ hI] at h8; cases h8
      · rw [rdI_some l _ m c hI] at hn
        simp only at hn ⊢
        rw [if_pos hn]
theorem decM_stop (K : Nat → Int) (l : List UInt8) (h : dOver l = false) (i : Nat) (hi : dStop l i) :
    decM K l = if (rdL l (dP8 l) i).2.2 = true ∨ (rdL l (dP8 l) i).2.1 ≠ l.length then .wire else if msgB K (dF l) (dD l) (rdL l (dP8 l) i).1 = true then .msg (dF l) (dD l) (rdL l (dP8 l) i).1 else .bad := by
  obtain ⟨hi0, hg, hs⟩ := hi
  have bad8 : (dP8 l).2 = true → (rdL l (dP8 l) i).2.2 = true := fun hb => by
    rcases Nat.eq_zero_or_pos i with rfl | hp
    · exact hb
    · have := hg 0 hp
      rw [show (rdL l (dP8 l) 0).2 = dP8 l from rfl, hb] at this
      cases this
  unfold decM
  rcases rdN_spec l 6 (by omega) with ⟨h1, h2⟩ | ⟨h1, h2⟩
  · have hb : (dP8 l).2 = true := by
      unfold dP8 dP7 dP6
      rw [rdS_bad l _ h1, rdI_bad l _ h1, h1]
    rw [h2, if_pos (.inl (bad8 hb))]
  · rcases hr : rdN l 6 with ⟨f, a, b⟩
    rw [hr] at h1 h2
    simp only at h1 h2
    subst h1
    rw [Nat.sub_self, decNs] at h2
    rw [h2]
    have hF : dF l = f := by unfold dF; rw [hr]
    have hP6 : dP6 l = (a, false) := by unfold dP6; rw [hr]
    simp only
    rcases hD : decS (l.drop a) with _ | ⟨d, k⟩
    · have hb : (dP8 l).2 = true := by
        unfold dP8 dP7
        rw [hP6, rdS_none l a hD, rdI_bad l _ rfl]
      rw [if_pos (.inl (bad8 hb))]
    · have hP7 : dP7 l = (a + k, false) := by unfold dP7; rw [hP6, rdS_some l a d k hD]
      have hDd : dD l = d := by unfold dD; rw [hP6, rdS_some l a d k hD]
      simp only [List.drop_drop]
      rcases hI : decI (l.drop (a + k)) with _ | ⟨m, c⟩
      · have hb : (dP8 l).2 = true := by
          unfold dP8
          rw [hP7, rdI_none l _ hI]
        rw [if_pos (.inl (bad8 hb))]
      · have hP8 : dP8 l = (a + k + c, false) := by unfold dP8; rw [hP7, rdI_some l _ m c hI]
        have hN : dN l = m := by unfold dN; rw [hP7, rdI_some l _ m c hI]
        unfold dOver at h
        rw [hP8, hN] at h
        simp only [Bool.not_false, Bool.true_and, decide_eq_false_iff_not] at h
        rw [hN] at hi0 hs
        rw [hP8] at hg hs
        simp only
        rw [if_neg h, hP8, hF, hDd]
        rcases rdL_spec l (a + k + c) m.toNat i (by omega) hg with ⟨h3, h4⟩ | ⟨h3, h4⟩
        · rw [h4, if_pos (.inl h3)]
        · have hm : m.toNat - i = 0 := by
            rcases hs with hs | hs
            · omega
            · rw [h3] at hs; cases hs
          rw [hm, decL] at h4
          rw [h4]
          simp only [List.append_nil]
          have hlen := rdL_le l (a + k + c, false) (by
            have := rdI_le l (dP7 l) (rdS_le l _ (rdN_le l 6))
            have e : (rdI l (dP7 l)).2 = dP8 l := rfl
            rw [e, hP8] at this
            exact this) i
          have hdr : l.drop (rdL l (a + k + c, false) i).2.1 = [] ↔ (rdL l (a + k + c, false) i).2.1 = l.length := by
            rw [List.drop_eq_nil_iff]
            omega
          by_cases hx : (rdL l (a + k + c, false) i).2.1 = l.length
          · have hn : ¬ ((rdL l (a + k + c, false) i).2.2 = true ∨ (rdL l (a + k + c, false) i).2.1 ≠ l.length) := by
              rintro (g | g)
              · rw [h3] at g; cases g
              · exact g hx
            rw [if_neg (fun g => g (hdr.2 hx)), if_neg hn]
          · rw [if_pos (fun g => hx (hdr.1 g)), if_pos (.inr hx)]
end Go.Proofs.YtcbckcojebanaaaDoor.RW

/-
  strings.Builder (WriteString, String) and strings.Compare: what they do; String and Compare are laid from the library's own contracts. Only the builder, its bytes and new memory are written.
-/
namespace Go.Proofs.YtcbckcojebanaaaDoor
open Go.Shelf Go.RowKit
def SH.lays169_ren : Go.Shelf.Ren := ⟨fun | 169 => 44 | n => n, fun | 70 => 59 | 9 => 9 | 0 => 0 | 72 => 62 | 37 => 60 | 127 => 111 | 3 => 3 | 5 => 5 | n => n, fun | n => n⟩
theorem SH.lays169 : Go.Proofs.Lays.n169 Tryd.prog SH.lays169_ren := {
  mixed := by kernel_rfl
  f169 := Tryd.func44.trans (congrArg some (by kernel_rfl))
  t0 := Tryd.underlying0
  a0 := Tryd.isAgg0
  z0 := Tryd.sizeOf0
  v0 := Tryd.zeroValue0
  t3 := Tryd.underlying3
  a3 := Tryd.isAgg3
  z3 := Tryd.sizeOf3
  v3 := Tryd.zeroValue3
  t9 := Tryd.underlying9
  a9 := Tryd.isAgg9
  z9 := Tryd.sizeOf9
  v9 := Tryd.zeroValue9
  t37 := Tryd.underlying60
  a37 := Tryd.isAgg60
  z37 := Tryd.sizeOf60
  v37 := Tryd.zeroValue60
  t70 := Tryd.underlying59
  a70 := Tryd.isAgg59
  z70 := Tryd.sizeOf59
  v70 := Tryd.zeroValue59
  t72 := Tryd.underlying62
  a72 := Tryd.isAgg62
  z72 := Tryd.sizeOf62
  v72 := Tryd.zeroValue62
  t127 := Tryd.underlying111
  a127 := Tryd.isAgg111
  z127 := Tryd.sizeOf111
  v127 := Tryd.zeroValue111 }
theorem SH.Builder_Extra_169 : Go.Proofs.Builder.Extra Tryd.prog SH.lays169_ren := {
  sizeBuilder := by kernel_rfl
  liesBuilder := by kernel_rfl
  t5 := Tryd.underlying5
  a5 := Tryd.isAgg5
  z5 := Tryd.sizeOf5
  v5 := Tryd.zeroValue5
  infoByte := by kernel_rfl
  cellsByte := by kernel_rfl
  sizeByte := by kernel_rfl
  neB5 := by decide }
open Go.RowKit in
theorem SH.Builder_String (B b : Nat) (l : List UInt8) (w : World) (h : Lib.IsBuilder 62 5 B b (Lib.byteCells l) w) (h0 : l ≠ []) :
    Calls Tryd.prog 44 #[.pointer (some ⟨b, 0, none⟩)] w fun e w' => e = .returned (.string ⟨l.toArray⟩) ∧ Below B w w' := Go.Proofs.Any.Builder_String SH.lays169 SH.Builder_Extra_169 B b l w h h0
open Go.RowKit in
theorem SH.Builder_String_empty (B b : Nat) (w : World) (h : Lib.IsBuilder 62 5 B b [] w) (hBw : B ≤ w.heap.size) :
    Calls Tryd.prog 44 #[.pointer (some ⟨b, 0, none⟩)] w fun e w' => e = .returned (.string ⟨#[]⟩) ∧ Below B w w' := Go.Proofs.Any.Builder_String_empty SH.lays169 SH.Builder_Extra_169 B b w h hBw
open Go.RowKit in
theorem SH.Builder_String_any (B b : Nat) (l : List UInt8) (w : World) (h : Lib.IsBuilder 62 5 B b (Lib.byteCells l) w) (hBw : B ≤ w.heap.size) :
    Calls Tryd.prog 44 #[.pointer (some ⟨b, 0, none⟩)] w fun e w' => e = .returned (.string ⟨l.toArray⟩) ∧ Below B w w' := Go.Proofs.Any.Builder_String_any SH.lays169 SH.Builder_Extra_169 B b l w h hBw
namespace RW
/-- whatever is neither the builder nor a row of bytes lies as it lay -/
def BKept (T5 b : Nat) (w w' : World) : Prop := ∀ k cs t fr, w.heap[k]? = some (.cells cs t fr) → t ≠ T5 → k ≠ b → w'.heap[k]? = w.heap[k]?
end RW
set_option maxHeartbeats 1000000 in
set_option maxRecDepth 100000 in
theorem copycheck_used (b : Nat) (w : World) (h0 : w.cell? ⟨b, 0, none⟩ = some (.pointer (some ⟨b, 0, none⟩))) :
    Calls Tryd.prog 64 #[.pointer (some ⟨b, 0, none⟩)] w fun e w' => e = .returned (.tuple #[]) ∧ w' = w := by
  obtain ⟨j, hj, _⟩ := Option.map_eq_some_iff.1 SH.Builder_Extra_169.sizeBuilder
  go_enter Tryd.func64, Tryd.ntmps64
  go_wp2
  rw [Lib.run_neq_ptr_same w _ Tryd.underlying59 hj]
  go_wp2
  go_end0
  exact ⟨rfl, rfl⟩
set_option maxHeartbeats 1000000 in
set_option maxRecDepth 100000 in
theorem copycheck_fresh (b : Nat) (w : World) (h0 : w.cell? ⟨b, 0, none⟩ = some (.pointer none)) (hsh : w.shape? b = some (62, 2)) (hfz : w.frozen? ⟨b, 0, none⟩ = false) :
    Calls Tryd.prog 64 #[.pointer (some ⟨b, 0, none⟩)] w fun e w' => e = .returned (.tuple #[]) ∧ w' = w.setCell ⟨b, 0, none⟩ (.pointer (some ⟨b, 0, none⟩)) := by
  obtain ⟨j, hj, hjs⟩ := Option.map_eq_some_iff.1 SH.Builder_Extra_169.sizeBuilder
  go_enter Tryd.func64, Tryd.ntmps64
  go_wp2
  rw [Lib.run_to_unsafe w ⟨b, 0, none⟩ Tryd.underlying59 Tryd.underlying124 hj (by rw [hjs]; decide) hsh (Nat.zero_lt_succ 1)]
  simp only [Result.andThen]
  rw [Oper.upon_value]
  go_wp2
  rw [run_callFunc_extern Tryd.func76 (by kernel_rfl) (by kernel_rfl) (by kernel_rfl) (e := Extern.AbiNoEscape.same) (by kernel_rfl)]
  rw [Lib.run_noEscape]
  simp only [Result.andThen]
  rw [Oper.upon_value]
  go_wp2
  rw [Lib.run_from_unsafe w ⟨b, 0, none⟩ Tryd.underlying124 Tryd.underlying59 hj hsh SH.Builder_Extra_169.liesBuilder]
  simp only [Result.andThen]
  rw [Oper.upon_value]
  go_wp2
  go_end0
  exact ⟨rfl, rfl⟩
theorem copycheck (B b : Nat) (bs : List Value) (w : World) (h : Lib.IsBuilder 62 5 B b bs w) :
    Calls Tryd.prog 64 #[.pointer (some ⟨b, 0, none⟩)] w fun e w' => e = .returned (.tuple #[]) ∧ Lib.BuilderAt 62 5 B b (.pointer (some ⟨b, 0, none⟩)) bs w' ∧ w.grownBy w' (some b) := by
  rcases h with h | h
  · refine (copycheck_fresh b w h.cell0 h.shape h.frozen0).mono ?_
    rintro e w' ⟨rfl, rfl⟩
    exact ⟨rfl, h.used _, grownBy_setCell' _ _ _⟩
  · refine (copycheck_used b w h.cell0).mono ?_
    rintro e w' ⟨rfl, rfl⟩
    exact ⟨rfl, h, ⟨rfl, rfl, rfl, Nat.le_refl _, fun _ _ _ => rfl⟩⟩
set_option maxHeartbeats 2000000 in
set_option maxRecDepth 100000 in
theorem writestring (B b : Nat) (bs : List Value) (s : ByteArray) (w : World) (h : Lib.IsBuilder 62 5 B b bs w) (hlen : bs.length + s.size ≤ 140737488355328) (hBw : B ≤ w.heap.size) :
    Calls Tryd.prog 41 #[.pointer (some ⟨b, 0, none⟩), .string s] w fun e w' => e = .returned (.tuple #[.int .i64 s.size, .nilIface]) ∧ Lib.BuilderAt 62 5 B b (.pointer (some ⟨b, 0, none⟩)) (bs ++ Lib.strCells s) w' ∧ Below B w w' ∧ RW.BKept 5 b w w' := by
  obtain ⟨i0, hi, hz0, hz1, hz2⟩ := info_parts SH.Builder_Extra_169.infoByte
  go_enter Tryd.func41, Tryd.ntmps41
  go_wp2_with (go_at_call 64; refine (copycheck B b bs _ h).mono ?_)
  rintro e w1 ⟨rfl, h1, hg1⟩
  obtain ⟨hB, v, hbk, hown, hne⟩ := h1
  have hsz1 := hg1.size
  have c0 : w1.cell? ⟨b, 0, none⟩ = some (.pointer (some ⟨b, 0, none⟩)) := by rw [Lib.cell_of_heap hbk]; rfl
  have c1 : w1.cell? ⟨b, 1, none⟩ = some v := by rw [Lib.cell_of_heap hbk]; rfl
  go_wp2_with (at_builtin; refine Lib.wpList_append_own_string _ rfl _ _ 60 9 rfl B 5 i0 Tryd.underlying60 Tryd.underlying9 hi hz0 hz1 hz2 _ _ _ rfl hown s rfl ?c3 ?c4 ?c5 ?_)
  case c3 => unfold maxLen; omega
  case c4 => omega
  case c5 => omega
  intro v' w2 hown' hgrow _
  have hlt : b < w1.heap.size := by
    rcases Nat.lt_or_ge b w1.heap.size with h' | h'
    · exact h'
    · simp [Array.getElem?_eq_none h'] at hbk
  have hb2 : w2.heap[b]? = some (.cells #[.pointer (some ⟨b, 0, none⟩), v] 62 (0, 0)) := by
    rw [hgrow.block b hlt (fun e => hne e.symm)]
    exact hbk
  have d0 : w2.cell? ⟨b, 0, none⟩ = some (.pointer (some ⟨b, 0, none⟩)) := by rw [Lib.cell_of_heap hb2]; rfl
  have d1 : w2.cell? ⟨b, 1, none⟩ = some v := by rw [Lib.cell_of_heap hb2]; rfl
  have f1 : w2.frozen? ⟨b, 1, none⟩ = false := Lib.frozen_of_heap hb2 1
  obtain ⟨ao, n', cap, rfl⟩ : ∃ ao n' cap, v' = .slice ao n' cap := by
    rcases hown'.2 with ⟨hv, _⟩ | ⟨g, cap, cur, hv, _⟩
    · exact ⟨_, _, _, hv⟩
    · exact ⟨_, _, _, hv⟩
  go_wp2
  go_ret2
  refine ⟨rfl, ?_, ?_, ?_⟩
  · exact Lib.BuilderAt.put (T := 62) (e := 5) hB hb2 (bs' := bs ++ Lib.strCells s) (by simpa [Lib.strCells_length] using hown') SH.Builder_Extra_169.neB5
  · have hb1 : Below B w w1 := (Below.refl B w).grown hg1 hBw (fun k e => by cases e; exact hB)
    exact (hb1.grown hgrow (by have := hb1.size; omega) (fun k hk => (hown.lt k hk).1)).setCell (p := ⟨b, 1, none⟩) hB _
  · intro k cs t fr hk ht hkb
    have hkl : k < w.heap.size := (Array.getElem?_eq_some_iff.1 hk).1
    have hk1 := (hg1.block k hkl (by simp; omega)).trans hk
    have hk2 : w2.heap[k]? = some (.cells cs t fr) := by
      refine (hgrow.block k (by omega) ?_).trans hk1
      intro e
      rcases hown.2 with ⟨hv, _⟩ | ⟨g, cap, cur, hv, _, hg, _⟩
      · rw [hv] at e; simp [Value.ownBlock] at e
      · rw [hv] at e; simp [Value.ownBlock] at e
        subst e
        rw [hk1] at hg
        injection hg with hg; injection hg with _ h2 _
        exact ht h2
    exact (Below.heap_setCell _ _ _ _ hkb).trans (hk2.trans hk.symm)
end Go.Proofs.YtcbckcojebanaaaDoor

/-
  Package ballot: Encode: the closure that writes to the builder; Encode of a message that is not valid.
-/
namespace Go.Proofs.YtcbckcojebanaaaDoor
open Go.RowKit
namespace RW
theorem below_grown {w w' : World} (h : Below w.heap.size w w') : w.grownBy w' none := ⟨h.os, h.tape, h.output, h.size, fun k hk _ => h.block k hk⟩
theorem bld_kept {T el : TypeId} {B b : Nat} {p : Value} {bs : List Value} {w w' : World} (h : Lib.BuilderAt T el B b p bs w) (hB : Below w.heap.size w w') : Lib.BuilderAt T el B b p bs w' := by
  obtain ⟨hb, v, hv, ho, hne⟩ := h
  exact ⟨hb, v, (hB.block _ (Array.getElem?_eq_some_iff.1 hv).1).trans hv, ho.kept (below_grown hB) (by cases e : v.ownBlock <;> simp), hne⟩
theorem isbld_kept {T e : TypeId} {B b : Nat} {bs : List Value} {w w' : World} (h : Lib.IsBuilder T e B b bs w) (hB : Below w.heap.size w w') : Lib.IsBuilder T e B b bs w' := by
  rcases h with h | h
  · exact .inl (bld_kept h hB)
  · exact .inr (bld_kept h hB)
theorem bld_new {T e : TypeId} (w : World) : Lib.IsBuilder T e w.heap.size w.heap.size [] (w.alloc (.cells #[.pointer none, .slice none 0 0] T)) :=
  .inl ⟨Nat.le_refl _, _, heap_alloc_new w _, World.ownsRow_nil _ _ _ _, by simp [Value.ownBlock]⟩
end RW
set_option maxRecDepth 100000 in
set_option maxHeartbeats 2000000 in
theorem put_any (B b : Nat) (bs : List Value) (s : ByteArray) (x : Int) (w : World) (h : Lib.IsBuilder 62 5 B b bs w) (hlen : bs.length + s.size ≤ 140737488355328) (hBw : B ≤ w.heap.size) :
    Calls Tryd.prog 40 #[.string s, .int .i64 x, .pointer (some ⟨b, 0, none⟩)] w fun e w' => e = .returned (.tuple #[]) ∧ Lib.BuilderAt 62 5 B b (.pointer (some ⟨b, 0, none⟩)) (bs ++ Lib.strCells s) w' ∧ Below B w w' ∧ RW.BKept 5 b w w' := by
  have hW := hide (writestring B b bs s w h hlen hBw)
  clear h
  go_enter Tryd.func40, Tryd.ntmps40
  go_wp2_with (go_at_call 41; refine hW.out.mono ?_; rintro e w' ⟨rfl, h1, h2, h3⟩; have h1H := hide h1; have h3H := hide h3; clear h1 h3)
  go_end0
  exact ⟨rfl, h1H.out, h2, h3H.out⟩
end Go.Proofs.YtcbckcojebanaaaDoor

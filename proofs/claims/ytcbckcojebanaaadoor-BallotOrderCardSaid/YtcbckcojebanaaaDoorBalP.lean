/-
  Ballot, the plain side: messages, their values, encodings and validity: no program in sight.
-/
import Derived.Test.YtcbckcojebanaaaDoorMA
import Derived.Test.YtcbckcojebanaaaDoorMB
namespace Go.Proofs.YtcbckcojebanaaaDoor.RW
open Go Go.RowKit
/-- a list of IDs is ascending: each has 32 bytes and is greater than the one before -/
def ascTo : Option (List UInt8) → List (List UInt8) → Bool
  | _, [] => true
  | none, s :: l => (s.length == 32) && ascTo (some s) l
  | some p, s :: l => ((s.length == 32) && !(Op.bytesLess s p || s == p)) && ascTo (some s) l
def asc (l : List (List UInt8)) : Bool := ascTo none l && decide (l.length ≤ 4000)
/-- the value of a list of IDs -/
def valL (l : List (List UInt8)) : List UInt8 := putI l.length ++ l.flatten
def site (n : Int) : Bool := decide (0 ≤ n ∧ n < 7)
def voteK (n : Int) : Bool := decide (4 ≤ n ∧ n ≤ 6)
/-- a message's six numbers: kind, from, to, height, round, valid -/
def placedB (n : Nat → Int) : Bool := decide (0 ≤ n 3 ∧ n 3 < 1200 ∧ 0 ≤ n 4 ∧ n 4 < 100)
def plainB (n : Nat → Int) (d : List UInt8) : Bool := decide (n 3 = 0 ∧ n 4 = 0 ∧ n 5 = 0) && d.isEmpty
def msgB (K : Nat → Int) (n : Nat → Int) (d : List UInt8) (l : List (List UInt8)) : Bool :=
  (site (n 1) && site (n 2) && (n 1 != n 2)) &&
  (if n 0 = 1 then plainB n d && decide (1 ≤ l.length ∧ l.length ≤ 100) && l.all (fun s => decide (1 ≤ s.length ∧ s.length ≤ 4000))
   else if n 0 = 2 then plainB n d && decide (1 ≤ l.length) && asc l
   else if n 0 = 3 then placedB n && asc l && decide (-1 ≤ n 5 ∧ n 5 < n 4) && (d == sha K (valL l))
   else if voteK (n 0) = true then placedB n && decide (n 5 = 0) && l.isEmpty && (d.isEmpty || d.length == 32)
   else false)
def encN (n : Nat → Int) (j : Nat) : List UInt8 := (List.range j).flatMap fun i => putI (n i)
theorem encN_succ (n : Nat → Int) (j : Nat) : encN n (j + 1) = encN n j ++ putI (n j) := by
  unfold encN; rw [List.range_succ, List.flatMap_append]; simp
def encM (n : Nat → Int) (d : List UInt8) (l : List (List UInt8)) : List UInt8 := encN n 6 ++ putS d ++ putI l.length ++ l.flatMap putS
/-- n strings, one after the other -/
def decL : Nat → List UInt8 → Option (List (List UInt8) × List UInt8)
  | 0, r => some ([], r)
  | k + 1, r => match decS r with
    | none => none
    | some (t, c) => match decL k (r.drop c) with
      | none => none
      | some (l, r') => some (t :: l, r')
/-- numbers from j on, k of them -/
def decNs : Nat → Nat → (Nat → Int) → List UInt8 → Option ((Nat → Int) × List UInt8)
  | 0, _, f, r => some (f, r)
  | k + 1, j, f, r => match decI r with
    | none => none
    | some (n, c) => decNs k (j + 1) (fun i => if i = j then n else f i) (r.drop c)
inductive Got where
  | wire
  | bad
  | msg (n : Nat → Int) (d : List UInt8) (l : List (List UInt8))
/-- what is decoded -/
def decM (K : Nat → Int) (s : List UInt8) : Got :=
  match decNs 6 0 (fun _ => 0) s with
  | none => .wire
  | some (f, r) => match decS r with
    | none => .wire
    | some (d, c) => match decI (r.drop c) with
      | none => .wire
      | some (m, c2) =>
        if m < 0 ∨ 4000 < m then .bad
        else match decL m.toNat ((r.drop c).drop c2) with
          | none => .wire
          | some (l, r') => if r' ≠ [] then .wire else if msgB K f d l = true then .msg f d l else .bad
theorem decL_put : ∀ (l : List (List UInt8)) (rest : List UInt8), (∀ s ∈ l, s.length ≤ 65536) → decL l.length (l.flatMap putS ++ rest) = some (l, rest)
  | [], rest, _ => rfl
  | s :: l, rest, h => by
    have h1 := decS_putS s (l.flatMap putS ++ rest) (h s (by simp))
    rw [List.length_cons, decL, List.flatMap_cons, List.append_assoc, h1]
    simp only [List.drop_left]
    rw [decL_put l rest (fun t ht => h t (by simp [ht]))]
theorem decL_take : ∀ (k : Nat) (r : List UInt8) (l : List (List UInt8)) (r' : List UInt8), decL k r = some (l, r') → r = l.flatMap putS ++ r' ∧ l.length = k ∧ ∀ s ∈ l, s.length ≤ 65536
  | 0, r, l, r', h => by
    rw [decL] at h
    simp at h
    obtain ⟨rfl, rfl⟩ := h
    simp
  | k + 1, r, l, r', h => by
    rw [decL] at h
    rcases hs : decS r with _ | ⟨t, c⟩
    · rw [hs] at h; cases h
    · rw [hs] at h
      simp only at h
      rcases hl : decL k (r.drop c) with _ | ⟨l', r2⟩
      · rw [hl] at h; cases h
      · rw [hl] at h
        simp at h
        obtain ⟨rfl, rfl⟩ := h
        obtain ⟨h1, h2, h3⟩ := decL_take k _ _ _ hl
        obtain ⟨h4, h5⟩ := decS_take r t c hs
        refine ⟨?_, by simp [h2], ?_⟩
        · rw [List.flatMap_cons, List.append_assoc, ← h1, ← h4, List.take_append_drop]
        · intro s hs'
          rcases List.mem_cons.1 hs' with rfl | hs'
          · exact h5
          · exact h3 s hs'
theorem decS_len (r t : List UInt8) (c : Nat) (hs : decS r = some (t, c)) : c ≤ r.length := by
  rcases hI : decI r with _ | ⟨n, k2⟩
  · rw [decS_none _ hI] at hs; cases hs
  · have hk := decI_le _ _ _ hI
    rw [decS_some _ _ _ hI] at hs
    split at hs
    · cases hs
    · simp at hs
      omega
theorem decL_append : ∀ (k : Nat) (r m : List UInt8) (l : List (List UInt8)) (r' : List UInt8), decL k r = some (l, r') → decL k (r ++ m) = some (l, r' ++ m)
  | 0, r, m, l, r', h => by
    rw [decL] at h ⊢
    simp at h
    obtain ⟨rfl, rfl⟩ := h
    rfl
  | k + 1, r, m, l, r', h => by
    rw [decL] at h
    rcases hs : decS r with _ | ⟨t, c⟩
    · rw [hs] at h; cases h
    · rw [hs] at h
      simp only at h
      rcases hl : decL k (r.drop c) with _ | ⟨l', r2⟩
      · rw [hl] at h; cases h
      · rw [hl] at h
        simp at h
        obtain ⟨rfl, rfl⟩ := h
        have hc : c ≤ r.length := decS_len r t c hs
        rw [decL, decS_append r m t c hs]
        simp only
        rw [List.drop_append_of_le_length hc, decL_append k _ m _ _ hl]
theorem decNs_enc (n f : Nat → Int) (rest : List UInt8) (h : ∀ i, -4611686018427387903 ≤ n i ∧ n i ≤ 4611686018427387903) : ∀ k j, (∀ i, i < j → f i = n i) →
    ∃ g, decNs k j f ((List.range k).flatMap (fun i => putI (n (j + i))) ++ rest) = some (g, rest) ∧ ∀ i, i < j + k → g i = n i := by
  intro k
  induction k generalizing f with
  | zero => intro j hf; exact ⟨f, by simp [decNs], fun i hi => hf i (by omega)⟩
  | succ k ih =>
    intro j hf
    have e : (List.range (k + 1)).flatMap (fun i => putI (n (j + i))) = putI (n j) ++ (List.range k).flatMap (fun i => putI (n (j + 1 + i))) := by
      rw [List.range_succ_eq_map, List.flatMap_cons, List.flatMap_map]
      simp only [Nat.add_zero]
      congr 2
      funext i
      rw [show j + Nat.succ i = j + 1 + i by omega]
    rw [e, List.append_assoc, decNs, decI_putI _ (h j).1 (h j).2]
    simp only [List.drop_left]
    obtain ⟨g, h1, h2⟩ := ih (fun i => if i = j then n j else f i) (j + 1) (fun i hi => by
      by_cases hij : i = j
      · rw [if_pos hij, hij]
      · rw [if_neg hij]; exact hf i (by omega))
    exact ⟨g, h1, fun i hi => h2 i (by omega)⟩
end Go.Proofs.YtcbckcojebanaaaDoor.RW

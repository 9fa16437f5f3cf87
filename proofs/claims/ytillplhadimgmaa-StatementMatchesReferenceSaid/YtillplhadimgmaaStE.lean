/-
  Statements, plain: encodings and what is decoded: no program in sight.
-/
import Derived.Test.YtillplhadimgmaaStP
import Derived.Test.YtillplhadimgmaaWireZ
namespace Go.Proofs.Ytillplhadimgmaa.RW
open Go Go.RowKit
/-- numbers, one after the other -/
def encL (l : List Int) : List UInt8 := l.flatMap putI
theorem encL_append (l m : List Int) : encL (l ++ m) = encL l ++ encL m := by simp [encL]
theorem encL_cons (n : Int) (l : List Int) : encL (n :: l) = putI n ++ encL l := by simp [encL]
def flatZ (l : List Ln) : List Int := l.flatMap fun x => [x.1, x.2.1, x.2.2]
theorem flatZ_cons (x : Ln) (l : List Ln) : flatZ (x :: l) = x.1 :: x.2.1 :: x.2.2 :: flatZ l := by simp [flatZ]
theorem flatZ_snoc (l : List Ln) (x : Ln) : flatZ (l ++ [x]) = flatZ l ++ [x.1, x.2.1, x.2.2] := by simp [flatZ]
theorem flatZ_len : ∀ l : List Ln, (flatZ l).length = 3 * l.length
  | [] => rfl
  | x :: l => by rw [flatZ_cons, List.length_cons, List.length_cons, List.length_cons, flatZ_len l, List.length_cons]; omega
/-- a statement's numbers -/
def stN (s : St) : List Int := s.1 :: s.2.1 :: (s.2.2.length : Int) :: flatZ s.2.2
def encS (s : St) : List UInt8 := encL (stN s)
/-- k numbers, one after the other -/
def decZ : Nat → List UInt8 → Option (List Int × List UInt8)
  | 0, r => some ([], r)
  | k + 1, r => match decI r with
    | none => none
    | some (n, c) => match decZ k (r.drop c) with
      | none => none
      | some (l, r') => some (n :: l, r')
theorem decZ_none {k : Nat} {r : List UInt8} (h : decI r = none) : decZ (k + 1) r = none := by rw [decZ, h]
theorem decZ_some {k : Nat} {r : List UInt8} {n : Int} {c : Nat} (h : decI r = some (n, c)) : decZ (k + 1) r = (decZ k (r.drop c)).map fun p => (n :: p.1, p.2) := by
  rw [decZ, h]
  simp only
  cases decZ k (r.drop c) <;> rfl
theorem decZ_add (a b : Nat) : ∀ r, decZ (a + b) r = (decZ a r).bind fun p => (decZ b p.2).map fun q => (p.1 ++ q.1, q.2) := by
  induction a with
  | zero => intro r; rw [Nat.zero_add]; cases h : decZ b r <;> simp [decZ, h]
  | succ a ih =>
    intro r
    rw [Nat.succ_add_eq_add_succ, Nat.add_succ]
    rcases h : decI r with _ | ⟨n, c⟩
    · rw [decZ_none h, decZ_none h]
      rfl
    · rw [decZ_some h, decZ_some h, ih]
      cases h1 : decZ a (r.drop c) with
      | none => rfl
      | some p =>
        simp only [Option.bind_some, Option.map_some]
        cases h2 : decZ b p.2 <;> simp
theorem decZ_len : ∀ (k : Nat) (r : List UInt8) (l : List Int) (r' : List UInt8), decZ k r = some (l, r') → l.length = k
  | 0, r, l, r', h => by
    rw [decZ] at h
    cases h
    rfl
  | k + 1, r, l, r', h => by
    rcases hd : decI r with _ | ⟨n, c⟩
    · rw [decZ_none hd] at h; cases h
    · rw [decZ_some hd] at h
      rcases h1 : decZ k (r.drop c) with _ | ⟨l1, r1⟩
      · rw [h1] at h; cases h
      · rw [h1] at h
        cases h
        simp [decZ_len k _ _ _ h1]
def okI (n : Int) : Prop := -4611686018427387903 ≤ n ∧ n ≤ 4611686018427387903
theorem decZ_enc : ∀ (l : List Int) (rest : List UInt8), (∀ n ∈ l, okI n) → decZ l.length (encL l ++ rest) = some (l, rest)
  | [], rest, _ => rfl
  | n :: l, rest, h => by
    have hn := h n (by simp)
    rw [encL_cons, List.append_assoc, List.length_cons, decZ_some (decI_putI n hn.1 hn.2 _), List.drop_left, decZ_enc l rest fun m hm => h m (by simp [hm])]
    rfl
theorem decZ_take : ∀ (k : Nat) (r : List UInt8) (l : List Int) (r' : List UInt8), decZ k r = some (l, r') → r = encL l ++ r' ∧ ∀ n ∈ l, okI n
  | 0, r, l, r', h => by
    rw [decZ] at h
    cases h
    exact ⟨rfl, fun n hn => by cases hn⟩
  | k + 1, r, l, r', h => by
    rcases hd : decI r with _ | ⟨n, c⟩
    · rw [decZ_none hd] at h; cases h
    · rw [decZ_some hd] at h
      rcases h1 : decZ k (r.drop c) with _ | ⟨l1, r1⟩
      · rw [h1] at h; cases h
      · rw [h1] at h
        cases h
        obtain ⟨e1, e2⟩ := decZ_take k _ _ _ h1
        refine ⟨?_, fun m hm => ?_⟩
        · rw [encL_cons, List.append_assoc, ← e1, ← decI_take r n c hd, List.take_append_drop]
        · rcases List.mem_cons.1 hm with rfl | hm
          · exact decI_bd _ _ _ hd
          · exact e2 m hm
theorem decZ_append : ∀ (k : Nat) (r m : List UInt8) (l : List Int) (r' : List UInt8), decZ k r = some (l, r') → decZ k (r ++ m) = some (l, r' ++ m)
  | 0, r, m, l, r', h => by
    rw [decZ] at h ⊢
    cases h
    rfl
  | k + 1, r, m, l, r', h => by
    rcases hd : decI r with _ | ⟨n, c⟩
    · rw [decZ_none hd] at h; cases h
    · rw [decZ_some hd] at h
      rcases h1 : decZ k (r.drop c) with _ | ⟨l1, r1⟩
      · rw [h1] at h; cases h
      · rw [h1] at h
        cases h
        have hc := (decI_le _ _ _ hd).2.1
        rw [decZ_some (decI_append r m n c hd), List.drop_append_of_le_length hc, decZ_append k _ m _ _ h1]
        rfl
/-- lines of numbers -/
def lnsOf : List Int → List Ln
  | a :: b :: c :: l => (a, b, c) :: lnsOf l
  | _ => []
theorem lnsOf_flat : ∀ l : List Ln, lnsOf (flatZ l) = l
  | [] => rfl
  | x :: l => by rw [flatZ_cons, lnsOf, lnsOf_flat l]
theorem flat_lnsOf : ∀ (k : Nat) (l : List Int), l.length = 3 * k → flatZ (lnsOf l) = l
  | 0, l, h => by
    obtain rfl := List.length_eq_zero_iff.1 h
    rfl
  | k + 1, [], h => by simp at h <;> omega
  | k + 1, [_], h => by simp at h <;> omega
  | k + 1, [_, _], h => by simp at h <;> omega
  | k + 1, a :: b :: c :: l, h => by
    rw [lnsOf, flatZ_cons, flat_lnsOf k l (by simp at h; omega)]
theorem lnsOf_len : ∀ (k : Nat) (l : List Int), l.length = 3 * k → (lnsOf l).length = k
  | k, l, h => by
    have h1 := flatZ_len (lnsOf l)
    rw [flat_lnsOf k l h, h] at h1
    omega
theorem lnsOf_app : ∀ (k : Nat) (l m : List Int), l.length = 3 * k → lnsOf (l ++ m) = lnsOf l ++ lnsOf m
  | 0, l, m, h => by
    obtain rfl := List.length_eq_zero_iff.1 h
    rfl
  | k + 1, [], m, h => by simp at h <;> omega
  | k + 1, [_], m, h => by simp at h <;> omega
  | k + 1, [_, _], m, h => by simp at h <;> omega
  | k + 1, a :: b :: c :: l, m, h => by
    rw [List.cons_append, List.cons_append, List.cons_append, lnsOf, lnsOf, lnsOf_app k l m (by simp at h; omega), List.cons_append]
inductive Got where
  | wire
  | bad
  | st (s : St)
/-- what is decoded behind the lines' numbers -/
def fin (h c : Int) (l : List Ln) (r : List UInt8) : Got := if r ≠ [] then .wire else if valB (h, c, l) = true then .st (h, c, l) else .bad
/-- what is decoded behind the first lines: k further ones -/
def rest (h c : Int) (l : List Ln) (k : Nat) (r : List UInt8) : Got := match decZ (3 * k) r with
  | none => .wire
  | some (q, r') => fin h c (l ++ lnsOf q) r'
def lines (h c n : Int) (r : List UInt8) : Got := if n < 1 ∨ 1200 < n then .bad else rest h c [] n.toNat r
def decT (r : List UInt8) : Got := match decZ 3 r with
  | some ([h, c, n], r') => lines h c n r'
  | _ => .wire
theorem three {k : Nat} {r : List UInt8} {q : List Int} {r' : List UInt8} (h : decZ k r = some (q, r')) (hk : k = 3) : ∃ a b c, q = [a, b, c] := by
  have := decZ_len _ _ _ _ h
  rw [hk] at this
  rcases q with _ | ⟨a, _ | ⟨b, _ | ⟨c, _ | ⟨d, q⟩⟩⟩⟩
  · simp at this
  · simp at this
  · simp at this
  · exact ⟨a, b, c, rfl⟩
  · simp at this <;> omega
theorem decT_none {r : List UInt8} (h : decZ 3 r = none) : decT r = .wire := by rw [decT, h]
theorem decT_some {r r' : List UInt8} {a b c : Int} (h : decZ 3 r = some ([a, b, c], r')) : decT r = lines a b c r' := by rw [decT, h]
theorem lines_bad {h c n : Int} {r : List UInt8} (hn : n < 1 ∨ 1200 < n) : lines h c n r = .bad := if_pos hn
theorem lines_go {h c n : Int} {r : List UInt8} (h1 : 1 ≤ n) (h2 : n ≤ 1200) : lines h c n r = rest h c [] n.toNat r := if_neg (by omega)
theorem rest_zero (h c : Int) (l : List Ln) (r : List UInt8) : rest h c l 0 r = fin h c l r := by
  unfold rest
  rw [Nat.mul_zero, decZ]
  simp [lnsOf]
theorem rest_none {h c : Int} {l : List Ln} {k : Nat} {r : List UInt8} (hr : decZ 3 r = none) : rest h c l (k + 1) r = .wire := by
  unfold rest
  rw [show 3 * (k + 1) = 3 + 3 * k by omega, decZ_add, hr]
  rfl
theorem rest_some {h c : Int} {l : List Ln} {k : Nat} {r r' : List UInt8} {x y z : Int} (hr : decZ 3 r = some ([x, y, z], r')) : rest h c l (k + 1) r = rest h c (l ++ [(x, y, z)]) k r' := by
  unfold rest
  rw [show 3 * (k + 1) = 3 + 3 * k by omega, decZ_add, hr]
  simp only [Option.bind_some]
  rcases h1 : decZ (3 * k) r' with _ | ⟨q, r2⟩
  · rfl
  · show fin h c (l ++ lnsOf ([x, y, z] ++ q)) r2 = fin h c (l ++ [(x, y, z)] ++ lnsOf q) r2
    rw [List.cons_append, List.cons_append, List.cons_append, List.nil_append, lnsOf, List.append_assoc]
    rfl
theorem mon_ok {n : Int} (h : mon n = true) : okI n := by
  rw [mon_iff] at h
  exact ⟨by omega, by omega⟩
theorem lnsB_ok : ∀ (l : List Ln) (z : Int), -1 ≤ z → lnsB z l = true → ∀ n ∈ flatZ l, okI n
  | [], _, _, _ => fun n hn => by cases hn
  | x :: l, z, hz, h => by
    simp only [lnsB, monL, Bool.and_eq_true, decide_eq_true_eq] at h
    obtain ⟨⟨⟨⟨h1, h2⟩, h3, h4⟩, _⟩, h5⟩ := h
    intro n hn
    rw [flatZ_cons] at hn
    simp only [List.mem_cons] at hn
    rcases hn with rfl | rfl | rfl | hn
    · exact ⟨by omega, by omega⟩
    · exact mon_ok h3
    · exact mon_ok h4
    · exact lnsB_ok l x.1 (by omega) h5 n hn
theorem lnsB_len' : ∀ (l : List Ln) (z : Int), lnsB z l = true → z < 1200 → z + l.length < 1200
  | [], z, _, hz => by simpa using hz
  | x :: l, z, h, _ => by
    simp only [lnsB, Bool.and_eq_true, decide_eq_true_eq] at h
    have := lnsB_len' l x.1 h.2 h.1.1.1.2
    rw [List.length_cons]
    omega
theorem valB_iff (s : St) : valB s = true ↔ lnsB (-1) s.2.2 = true ∧ 1 ≤ s.1 ∧ s.1 ≤ 1000000 ∧ 0 ≤ s.2.1 ∧ s.2.1 < 1200 ∧ 1 ≤ s.2.2.length := by
  unfold valB
  simp [and_assoc]
theorem valB_facts {s : St} (h : valB s = true) : (∀ n ∈ stN s, okI n) ∧ 1 ≤ s.2.2.length ∧ s.2.2.length ≤ 1200 := by
  obtain ⟨h1, h2, h3, h4, h5, h6⟩ := (valB_iff s).1 h
  have h7 := lnsB_len' _ _ h1 (by omega)
  refine ⟨fun n hn => ?_, h6, by omega⟩
  unfold stN at hn
  simp only [List.mem_cons] at hn
  rcases hn with rfl | rfl | rfl | hn
  · exact ⟨by omega, by omega⟩
  · exact ⟨by omega, by omega⟩
  · exact ⟨by omega, by omega⟩
  · exact lnsB_ok _ _ (by omega) h1 n hn
/-- what a valid encoding with further bytes gives -/
theorem decT_enc {s : St} (h : valB s = true) (more : List UInt8) : decT (encS s ++ more) = if more ≠ [] then .wire else .st s := by
  obtain ⟨h1, h2, h3⟩ := valB_facts h
  have e1 : encS s ++ more = encL [s.1, s.2.1, (s.2.2.length : Int)] ++ (encL (flatZ s.2.2) ++ more) := by
    unfold encS stN
    rw [show s.1 :: s.2.1 :: (s.2.2.length : Int) :: flatZ s.2.2 = [s.1, s.2.1, (s.2.2.length : Int)] ++ flatZ s.2.2 from rfl, encL_append, List.append_assoc]
  have h0 : decZ 3 (encL [s.1, s.2.1, (s.2.2.length : Int)] ++ (encL (flatZ s.2.2) ++ more)) = some ([s.1, s.2.1, (s.2.2.length : Int)], encL (flatZ s.2.2) ++ more) := decZ_enc [s.1, s.2.1, (s.2.2.length : Int)] _ fun n hn => h1 n (by
    unfold stN
    simp only [List.mem_cons, List.not_mem_nil, or_false] at hn ⊢
    rcases hn with rfl | rfl | rfl <;> simp)
  rw [e1, decT_some h0, lines_go (by omega) (by omega)]
  unfold rest
  have h4 : decZ (3 * ((s.2.2.length : Int)).toNat) (encL (flatZ s.2.2) ++ more) = some (flatZ s.2.2, more) := by
    rw [Int.toNat_natCast, ← flatZ_len]
    exact decZ_enc _ _ fun n hn => h1 n (by unfold stN; simp [hn])
  rw [h4]
  simp only [List.nil_append, lnsOf_flat]
  unfold fin
  rw [show (s.1, s.2.1, s.2.2) = s from rfl, if_pos h]
theorem rest_take {h c : Int} {k : Nat} {r : List UInt8} {s : St} (hr : rest h c [] k r = .st s) : s.1 = h ∧ s.2.1 = c ∧ s.2.2.length = k ∧ r = encL (flatZ s.2.2) ∧ valB s = true := by
  unfold rest at hr
  rcases hq : decZ (3 * k) r with _ | ⟨q, r2⟩
  · rw [hq] at hr; cases hr
  · rw [hq] at hr
    simp only [List.nil_append] at hr
    unfold fin at hr
    split at hr
    · cases hr
    · rename_i h2
      split at hr
      · rename_i h3
        cases hr
        have hl := decZ_len _ _ _ _ hq
        obtain ⟨e1, _⟩ := decZ_take _ _ _ _ hq
        have hr2 : r2 = [] := Classical.byContradiction fun e => h2 e
        refine ⟨rfl, rfl, lnsOf_len k q hl, ?_, h3⟩
        show r = encL (flatZ (lnsOf q))
        rw [flat_lnsOf k q hl, e1, hr2, List.append_nil]
      · cases hr
/-- what is decoded is encoded to what it was decoded of -/
theorem decT_take {r : List UInt8} {s : St} (h : decT r = .st s) : r = encS s ∧ valB s = true := by
  rcases hq : decZ 3 r with _ | ⟨q, r1⟩
  · rw [decT_none hq] at h; cases h
  · obtain ⟨a, b, n, rfl⟩ := three hq rfl
    rw [decT_some hq] at h
    by_cases hn : n < 1 ∨ 1200 < n
    · rw [lines_bad hn] at h; cases h
    · rw [lines_go (by omega) (by omega)] at h
      obtain ⟨h1, h2, h3, h4, h5⟩ := rest_take h
      obtain ⟨e1, _⟩ := decZ_take _ _ _ _ hq
      refine ⟨?_, h5⟩
      unfold encS stN
      rw [e1, h4, show s.1 :: s.2.1 :: (s.2.2.length : Int) :: flatZ s.2.2 = [s.1, s.2.1, (s.2.2.length : Int)] ++ flatZ s.2.2 from rfl, encL_append, h1, h2, h3, Int.toNat_of_nonneg (by omega)]
/-- a proper prefix of a valid encoding is cut within a number or between two -/
theorem decT_prefix {s : St} (h : valB s = true) (p m : List UInt8) (hp : p ++ m = encS s) (hm : m ≠ []) : decT p = .wire := by
  have hfull := decT_enc h []
  rw [List.append_nil, if_neg (by simp)] at hfull
  rcases hq : decZ 3 p with _ | ⟨q, r1⟩
  · exact decT_none hq
  · obtain ⟨a, b, n, rfl⟩ := three hq rfl
    have h1 := decZ_append 3 p m _ _ hq
    rw [hp] at h1
    rw [decT_some h1] at hfull
    rw [decT_some hq]
    by_cases hn : n < 1 ∨ 1200 < n
    · rw [lines_bad hn] at hfull; cases hfull
    · rw [lines_go (by omega) (by omega)] at hfull ⊢
      unfold rest at hfull ⊢
      rcases hz : decZ (3 * n.toNat) r1 with _ | ⟨q2, r2⟩
      · rfl
      · rw [decZ_append _ _ m _ _ hz] at hfull
        simp only [List.nil_append] at hfull ⊢
        unfold fin at hfull
        rw [if_pos (by simp [hm])] at hfull
        cases hfull
end Go.Proofs.Ytillplhadimgmaa.RW

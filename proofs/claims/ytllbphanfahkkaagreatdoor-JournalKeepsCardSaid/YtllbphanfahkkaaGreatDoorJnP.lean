/-
  Journals, plain: how records are stored, what a content holds, what Open and Append do to a disk: no program in sight.
-/
import Derived.Test.YtllbphanfahkkaaGreatDoorDk7
import Derived.Test.YtllbphanfahkkaaGreatDoorMA
namespace Go.Proofs.YtllbphanfahkkaaGreatDoor.RW
open Go Go.RowKit
section
variable (H : List UInt8 → List UInt8)
/-- the head of a chain with a further record -/
def chn (h : List UInt8) (r : ByteArray) : List UInt8 := H (2 :: (h ++ r.data.toList))
/-- how a record is stored behind a head -/
def sto (h : List UInt8) (r : ByteArray) : List UInt8 := 1 :: (putS r.data.toList ++ chn H h r)
def z32 : List UInt8 := List.replicate 32 0
def hds : List UInt8 → List ByteArray → List UInt8
  | h, [] => h
  | h, r :: rs => hds (chn H h r) rs
def stos : List UInt8 → List ByteArray → List UInt8
  | _, [] => []
  | h, r :: rs => sto H h r ++ stos (chn H h r) rs
theorem hds_app : ∀ (rs qs : List ByteArray) (h : List UInt8), hds H h (rs ++ qs) = hds H (hds H h rs) qs
  | [], _, _ => rfl
  | r :: rs, qs, h => hds_app rs qs _
theorem stos_app : ∀ (rs qs : List ByteArray) (h : List UInt8), stos H h (rs ++ qs) = stos H h rs ++ stos H (hds H h rs) qs
  | [], _, _ => rfl
  | r :: rs, qs, h => by
    show sto H h r ++ stos H (chn H h r) (rs ++ qs) = _
    rw [stos_app rs qs, ← List.append_assoc]
    rfl
theorem hds_snoc (h : List UInt8) (rs : List ByteArray) (r : ByteArray) : hds H h (rs ++ [r]) = chn H (hds H h rs) r := by rw [hds_app]; rfl
theorem stos_snoc (h : List UInt8) (rs : List ByteArray) (r : ByteArray) : stos H h (rs ++ [r]) = stos H h rs ++ sto H (hds H h rs) r := by
  rw [stos_app]
  simp [stos]
theorem sto_len (hH : ∀ l, (H l).length = 32) (h : List UInt8) (r : ByteArray) : (sto H h r).length = 33 + (putS r.data.toList).length := by
  unfold sto chn
  rw [List.length_cons, List.length_append, hH]
  omega
theorem stos_head (h : List UInt8) (r : ByteArray) (rs : List ByteArray) : ∃ t, stos H h (r :: rs) = 1 :: t := ⟨_, rfl⟩
theorem stos_nil (h : List UInt8) (rs : List ByteArray) : stos H h rs = [] ↔ rs = [] := by
  cases rs with
  | nil => simp [stos]
  | cons r rs =>
    obtain ⟨t, ht⟩ := stos_head H h r rs
    rw [ht]
    simp
/-- the records of a content behind a head, and how many bytes they take -/
def ldS : Nat → List UInt8 → List UInt8 → Option (List ByteArray × Nat)
  | 0, _, _ => some ([], 0)
  | f + 1, h, l => match l with
    | [] => some ([], 0)
    | b :: t => if b = 0 then some ([], 0) else if b = 1 then (match decS t with
        | none => none
        | some (r, c) => if (t.drop c).take 32 = chn H h ⟨r.toArray⟩ then (ldS f (chn H h ⟨r.toArray⟩) (t.drop (c + 32))).map fun p => (⟨r.toArray⟩ :: p.1, 33 + c + p.2) else none) else none
theorem ldS_fuel : ∀ (f g : Nat) (h l : List UInt8), l.length < f → l.length < g → ldS H f h l = ldS H g h l
  | 0, _, _, _, h1, _ => absurd h1 (Nat.not_lt_zero _)
  | _ + 1, 0, _, _, _, h2 => absurd h2 (Nat.not_lt_zero _)
  | f + 1, g + 1, h, l, h1, h2 => by
    cases l with
    | nil => rfl
    | cons b t =>
      unfold ldS
      rw [List.length_cons] at h1 h2
      have hk : ∀ c, (t.drop (c + 32)).length ≤ t.length := fun c => by rw [List.length_drop]; omega
      cases hd : decS t with
      | none => simp only [hd]
      | some p =>
        obtain ⟨r, c⟩ := p
        have := hk c
        simp only [hd, ldS_fuel f g (chn H h ⟨r.toArray⟩) (t.drop (c + 32)) (by omega) (by omega)]
def ldL (h l : List UInt8) : Option (List ByteArray × Nat) := ldS H (l.length + 1) h l
theorem ldL_nil (h : List UInt8) : ldL H h [] = some ([], 0) := rfl
theorem ldL_zero (h t : List UInt8) : ldL H h (0 :: t) = some ([], 0) := by
  unfold ldL ldS
  simp
theorem ldL_bad (h t : List UInt8) {b : UInt8} (h0 : b ≠ 0) (h1 : b ≠ 1) : ldL H h (b :: t) = none := by
  unfold ldL ldS
  simp [h0, h1]
theorem ldL_none (h t : List UInt8) (hd : decS t = none) : ldL H h (1 :: t) = none := by
  unfold ldL ldS
  simp [hd]
theorem ldL_head (h t r : List UInt8) (c : Nat) (hd : decS t = some (r, c)) (hn : (t.drop c).take 32 ≠ chn H h ⟨r.toArray⟩) : ldL H h (1 :: t) = none := by
  unfold ldL ldS
  simp [hd, hn]
theorem ldL_step (h t r : List UInt8) (c : Nat) (hd : decS t = some (r, c)) (hn : (t.drop c).take 32 = chn H h ⟨r.toArray⟩) :
    ldL H h (1 :: t) = (ldL H (chn H h ⟨r.toArray⟩) (t.drop (c + 32))).map fun p => (⟨r.toArray⟩ :: p.1, 33 + c + p.2) := by
  have e : ldL H h (1 :: t) = (ldS H (t.length + 1) (chn H h ⟨r.toArray⟩) (t.drop (c + 32))).map fun p => (⟨r.toArray⟩ :: p.1, 33 + c + p.2) := by
    unfold ldL
    rw [List.length_cons]
    conv => lhs; unfold ldS
    simp [hd, hn]
  rw [e]
  unfold ldL
  rw [ldS_fuel H (t.length + 1) ((t.drop (c + 32)).length + 1) _ _ (by rw [List.length_drop]; omega) (by omega)]
theorem strOf_size (l : List UInt8) : (strOf l).size = l.length := by show l.toArray.size = _; simp
theorem strOf_list (l : List UInt8) : (strOf l).data.toList = l := by simp [strOf]
theorem arr_list (r : List UInt8) : (⟨r.toArray⟩ : ByteArray).data.toList = r := by simp
/-- what is read is what is stored -/
theorem ldL_sound (hH : ∀ l, (H l).length = 32) : ∀ (f : Nat) (h l : List UInt8) (rs : List ByteArray) (n : Nat), l.length < f → ldL H h l = some (rs, n) →
    l.take n = stos H h rs ∧ n ≤ l.length ∧ (stos H h rs).length = n ∧ (l.drop n = [] ∨ ∃ t, l.drop n = 0 :: t) ∧ ∀ r ∈ rs, r.size ≤ 65536
  | 0, _, _, _, _, h1, _ => absurd h1 (Nat.not_lt_zero _)
  | f + 1, h, l, rs, n, h1, he => by
    cases l with
    | nil =>
      rw [ldL_nil] at he
      cases he
      exact ⟨rfl, Nat.le_refl _, rfl, .inl rfl, fun r hr => by cases hr⟩
    | cons b t =>
      by_cases h0 : b = 0
      · subst h0
        rw [ldL_zero] at he
        cases he
        exact ⟨rfl, Nat.zero_le _, rfl, .inr ⟨t, rfl⟩, fun r hr => by cases hr⟩
      · by_cases hb : b = 1
        · subst hb
          rcases hd : decS t with _ | ⟨r, c⟩
          · rw [ldL_none H h t hd] at he; cases he
          · by_cases hn : (t.drop c).take 32 = chn H h ⟨r.toArray⟩
            · rw [ldL_step H h t r c hd hn] at he
              rcases hr : ldL H (chn H h ⟨r.toArray⟩) (t.drop (c + 32)) with _ | ⟨rs', n'⟩
              · rw [hr] at he; cases he
              · rw [hr] at he
                simp only [Option.map_some, Option.some.injEq, Prod.mk.injEq] at he
                obtain ⟨rfl, rfl⟩ := he
                rw [List.length_cons] at h1
                obtain ⟨e1, e2, e3, e4, e5⟩ := ldL_sound hH f _ _ rs' n' (by rw [List.length_drop]; omega) hr
                obtain ⟨g1, g2⟩ := decS_take t r c hd
                have hl32 : (chn H h ⟨r.toArray⟩).length = 32 := hH _
                have hc32 : c + 32 ≤ t.length := by
                  have := congrArg List.length hn
                  rw [hl32, List.length_take, List.length_drop] at this
                  omega
                have hcc : (putS r).length = c := by
                  rw [← g1, List.length_take]
                  omega
                have hst : stos H h (⟨r.toArray⟩ :: rs') = 1 :: (putS r ++ chn H h ⟨r.toArray⟩ ++ stos H (chn H h ⟨r.toArray⟩) rs') := by
                  show sto H h ⟨r.toArray⟩ ++ stos H (chn H h ⟨r.toArray⟩) rs' = _
                  unfold sto
                  rw [arr_list]
                  rfl
                refine ⟨?_, ?_, ?_, ?_, ?_⟩
                · rw [hst, ← e1, ← g1, ← hn]
                  rw [show 33 + c + n' = (c + 32 + n') + 1 by omega, List.take_succ_cons]
                  congr 1
                  rw [List.take_add, List.take_add]
                · rw [List.length_cons]
                  rw [List.length_drop] at e2
                  omega
                · rw [hst, List.length_cons, List.length_append, List.length_append, hcc, hl32, e3]
                  omega
                · rw [show 33 + c + n' = (c + 32 + n') + 1 by omega, List.drop_succ_cons, ← List.drop_drop]
                  exact e4
                · intro q hq
                  rcases List.mem_cons.1 hq with rfl | hq
                  · show r.toArray.size ≤ 65536
                    simpa using g2
                  · exact e5 q hq
            · rw [ldL_head H h t r c hd hn] at he; cases he
        · rw [ldL_bad H h t h0 hb] at he; cases he
theorem ldL_sound' (hH : ∀ l, (H l).length = 32) {h l : List UInt8} {rs : List ByteArray} {n : Nat} (he : ldL H h l = some (rs, n)) :
    l.take n = stos H h rs ∧ n ≤ l.length ∧ (stos H h rs).length = n ∧ (l.drop n = [] ∨ ∃ t, l.drop n = 0 :: t) ∧ ∀ r ∈ rs, r.size ≤ 65536 := ldL_sound H hH (l.length + 1) h l rs n (by omega) he
/-- what is stored is read -/
theorem ldL_complete (hH : ∀ l, (H l).length = 32) : ∀ (rs : List ByteArray) (h rest : List UInt8), (∀ r ∈ rs, r.size ≤ 65536) → (rest = [] ∨ ∃ t, rest = 0 :: t) → ldL H h (stos H h rs ++ rest) = some (rs, (stos H h rs).length)
  | [], h, rest, _, hr => by
    rcases hr with rfl | ⟨t, rfl⟩
    · exact ldL_nil H h
    · exact ldL_zero H h t
  | r :: rs, h, rest, hs, hr => by
    have hl : r.data.toList.length = r.size := by rw [Array.length_toList]; rfl
    have e1 : stos H h (r :: rs) ++ rest = 1 :: (putS r.data.toList ++ (chn H h r ++ (stos H (chn H h r) rs ++ rest))) := by
      show sto H h r ++ stos H (chn H h r) rs ++ rest = _
      unfold sto
      simp [List.append_assoc]
    have hd := decS_putS r.data.toList (chn H h r ++ (stos H (chn H h r) rs ++ rest)) (by rw [hl]; exact hs r (by simp))
    have hr' : (⟨r.data.toList.toArray⟩ : ByteArray) = r := by simp
    have hl32 : (chn H h r).length = 32 := hH _
    rw [e1, ldL_step H h _ _ _ hd (by rw [List.drop_left, hr', ← hl32, List.take_left]), hr']
    have hdd : (putS r.data.toList ++ (chn H h r ++ (stos H (chn H h r) rs ++ rest))).drop ((putS r.data.toList).length + 32) = stos H (chn H h r) rs ++ rest := by
      rw [← List.drop_drop, List.drop_left, ← hl32, List.drop_left]
    rw [hdd, ldL_complete hH rs _ rest (fun q hq => hs q (by simp [hq])) hr]
    simp only [Option.map_some, Option.some.injEq, Prod.mk.injEq, true_and]
    show _ = (sto H h r ++ stos H (chn H h r) rs).length
    rw [List.length_append, sto_len H hH]
/-- what Open does: the error, the records, the disk -/
def jopen (n : Nat) (S : Dk) : Int × Option (List ByteArray) × Dk :=
  if S.off then (221, none, S) else match ldL H z32 S.vis with
    | none => (232, none, S)
    | some (rs, k) => if (S.vis.drop k).all (fun b => decide (b = 0)) = true then (0, some rs, S) else
      if (S.write n (k : Int) (strOf (List.replicate (n - k) 0))).1 ≠ 0 then ((S.write n (k : Int) (strOf (List.replicate (n - k) 0))).1, none, (S.write n (k : Int) (strOf (List.replicate (n - k) 0))).2) else
      if (S.write n (k : Int) (strOf (List.replicate (n - k) 0))).2.sync.1 ≠ 0 then ((S.write n (k : Int) (strOf (List.replicate (n - k) 0))).2.sync.1, none, (S.write n (k : Int) (strOf (List.replicate (n - k) 0))).2.sync.2) else
      (0, some rs, (S.write n (k : Int) (strOf (List.replicate (n - k) 0))).2.sync.2)
/-- two calls that write a string and make it durable -/
def wrsy (n : Nat) (S : Dk) (o : Nat) (s : List UInt8) : Int × Dk :=
  if (S.write n (o : Int) (strOf s)).1 ≠ 0 then S.write n (o : Int) (strOf s) else (S.write n (o : Int) (strOf s)).2.sync
/-- what Append does: the error, the records, whether the journal is broken, the disk -/
def japp (n : Nat) (S : Dk) (rs : List ByteArray) (br : Bool) (l : List ByteArray) : Int × List ByteArray × Bool × Dk :=
  if br = true ∨ l.any (fun r => decide (65536 < r.size)) = true then (230, rs, br, S) else
  if n - (stos H z32 rs).length < (stos H (hds H z32 rs) l).length then (231, rs, br, S) else
  if l = [] then (0, rs, br, S) else
  if (wrsy n S ((stos H z32 rs).length + 1) ((stos H (hds H z32 rs) l).drop 1)).1 ≠ 0 then ((wrsy n S ((stos H z32 rs).length + 1) ((stos H (hds H z32 rs) l).drop 1)).1, rs, true, (wrsy n S ((stos H z32 rs).length + 1) ((stos H (hds H z32 rs) l).drop 1)).2) else
  if (wrsy n (wrsy n S ((stos H z32 rs).length + 1) ((stos H (hds H z32 rs) l).drop 1)).2 (stos H z32 rs).length ((stos H (hds H z32 rs) l).take 1)).1 ≠ 0 then
    ((wrsy n (wrsy n S ((stos H z32 rs).length + 1) ((stos H (hds H z32 rs) l).drop 1)).2 (stos H z32 rs).length ((stos H (hds H z32 rs) l).take 1)).1, rs, true, (wrsy n (wrsy n S ((stos H z32 rs).length + 1) ((stos H (hds H z32 rs) l).drop 1)).2 (stos H z32 rs).length ((stos H (hds H z32 rs) l).take 1)).2) else
  (0, rs ++ l, br, (wrsy n (wrsy n S ((stos H z32 rs).length + 1) ((stos H (hds H z32 rs) l).drop 1)).2 (stos H z32 rs).length ((stos H (hds H z32 rs) l).take 1)).2)
end
end Go.Proofs.YtllbphanfahkkaaGreatDoor.RW

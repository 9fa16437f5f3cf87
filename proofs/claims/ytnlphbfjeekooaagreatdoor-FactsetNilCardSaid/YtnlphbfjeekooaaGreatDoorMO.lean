/-
  The root of a list, plain: the stack's root is the recursive one; the strings whose digests make it: no program in sight.
-/
import Derived.Test.YtnlphbfjeekooaaGreatDoorNB
import Derived.Test.YtnlphbfjeekooaaGreatDoorNA
import Derived.Test.YtnlphbfjeekooaaGreatDoorFactP
namespace Go.Proofs.YtnlphbfjeekooaaGreatDoor.RW
open Go Go.RowKit
/-- the greatest power of two below n, as the program reckons it -/
def lefF : Nat → Nat → Nat → Nat
  | 0, k, _ => k
  | f + 1, k, n => if 2 * k < n then lefF f (2 * k) n else k
def lef (n : Nat) : Nat := lefF n 1 n
theorem lefF_spec : ∀ (f k n : Nat), 1 ≤ k → k < n → n ≤ k + f → (∃ j, lefF f k n = 2 ^ j * k) ∧ lefF f k n < n ∧ n ≤ 2 * lefF f k n
  | 0, k, n, _, h2, h3 => absurd h3 (by omega)
  | f + 1, k, n, h1, h2, h3 => by
    unfold lefF
    by_cases h : 2 * k < n
    · rw [if_pos h]
      obtain ⟨⟨j, hj⟩, g2, g3⟩ := lefF_spec f (2 * k) n (by omega) h (by omega)
      exact ⟨⟨j + 1, by rw [hj, Nat.pow_succ, Nat.mul_assoc]⟩, g2, g3⟩
    · rw [if_neg h]
      exact ⟨⟨0, by simp⟩, h2, by omega⟩
theorem lef_spec {n : Nat} (h : 2 ≤ n) : (∃ j, lef n = 2 ^ j) ∧ lef n < n ∧ n ≤ 2 * lef n ∧ 1 ≤ lef n := by
  obtain ⟨⟨j, hj⟩, h2, h3⟩ := lefF_spec n 1 n (Nat.le_refl _) (by omega) (by omega)
  exact ⟨⟨j, by unfold lef; rw [hj, Nat.mul_one]⟩, h2, h3, by unfold lef; omega⟩
theorem lef_pow (k : Nat) : lef (2 ^ (k + 1)) = 2 ^ k := by
  obtain ⟨⟨j, hj⟩, h2, h3, _⟩ := lef_spec (show 2 ≤ 2 ^ (k + 1) from by have := Nat.one_le_two_pow (n := k); rw [Nat.pow_succ]; omega)
  rw [hj] at h2 h3 ⊢
  rw [← Nat.pow_succ'] at h3
  have h4 := (Nat.pow_lt_pow_iff_right (a := 2) (by decide)).1 h2
  have h5 := (Nat.pow_le_pow_iff_right (a := 2) (by decide)).1 h3
  rw [show j = k by omega]
/-- the root, as the reference reckons it -/
def rootR (K : Nat → Int) (l : List ByteArray) : ByteArray :=
  if _h0 : l.length = 0 then ⟨(sha K []).toArray⟩ else if _h1 : l.length = 1 then leafB K (l.headD ⟨#[]⟩) else
    nodeB K (rootR K (l.take (lef l.length))) (rootR K (l.drop (lef l.length)))
termination_by l.length
decreasing_by
  · obtain ⟨_, h2, _, _⟩ := lef_spec (n := l.length) (by omega)
    rw [List.length_take]
    omega
  · obtain ⟨_, _, _, h4⟩ := lef_spec (n := l.length) (by omega)
    rw [List.length_drop]
    omega
theorem rootR_nil (K : Nat → Int) : rootR K [] = ⟨(sha K []).toArray⟩ := by rw [rootR]; exact dif_pos rfl
theorem rootR_one (K : Nat → Int) (s : ByteArray) : rootR K [s] = leafB K s := by rw [rootR, dif_neg (by simp)]; exact dif_pos rfl
theorem rootR_two (K : Nat → Int) {l : List ByteArray} (h : 2 ≤ l.length) : rootR K l = nodeB K (rootR K (l.take (lef l.length))) (rootR K (l.drop (lef l.length))) := by
  conv => lhs; rw [rootR]
  rw [dif_neg (by omega), dif_neg (by omega)]
theorem rootR_size (K : Nat → Int) (l : List ByteArray) : (rootR K l).size = 32 := by
  rcases Nat.lt_or_ge l.length 2 with h | h
  · rcases l with _ | ⟨s, _ | ⟨t, l⟩⟩
    · rw [rootR_nil]
      show (sha K _).toArray.size = 32
      rw [List.size_toArray, sha_lenD]
    · rw [rootR_one, leafB_size]
    · simp at h; omega
  · rw [rootR_two K h, nodeB_size]
/-- the list comes onto the stack -/
def fdS (K : Nat → Int) (l : List ByteArray) (st : List (ByteArray × Nat)) : List (ByteArray × Nat) := l.foldl (fun st s => mrg K (leafB K s, 1) st) st
theorem fdS_app (K : Nat → Int) (a b : List ByteArray) (st : List (ByteArray × Nat)) : fdS K (a ++ b) st = fdS K b (fdS K a st) := by unfold fdS; rw [List.foldl_append]
theorem mrg_keep (K : Nat → Int) : ∀ (A st : List (ByteArray × Nat)) (x : ByteArray × Nat), (∀ y ∈ st, x.2 + sumS A < y.2) → mrg K x (A ++ st) = mrg K x A ++ st
  | [], st, x, h => by
    cases st with
    | nil => rfl
    | cons y st =>
      have := h y (by simp)
      show mrg K x (y :: st) = _
      unfold mrg
      rw [if_neg (by unfold sumS at this; simp at this; omega)]
      rfl
  | z :: A, st, x, h => by
    show mrg K x (z :: (A ++ st)) = _
    unfold mrg
    by_cases e : z.2 = x.2
    · rw [if_pos e, if_pos e, mrg_keep K A st _ (fun y hy => by have := h y hy; rw [sumS_cons] at this; show 2 * x.2 + sumS A < y.2; omega)]
    · rw [if_neg e, if_neg e]
      rfl
theorem fdS_keep (K : Nat → Int) : ∀ (l : List ByteArray) (A st : List (ByteArray × Nat)), StOk A → (∀ y ∈ st, l.length + sumS A < y.2) → fdS K l (A ++ st) = fdS K l A ++ st
  | [], _, _, _, _ => rfl
  | s :: l, A, st, hA, h => by
    obtain ⟨h1, h2⟩ := mrg_ok K A (leafB K s, 1) (leafB_size _ _) (Nat.le_refl _) hA
    show fdS K l (mrg K (leafB K s, 1) (A ++ st)) = fdS K l (mrg K (leafB K s, 1) A) ++ st
    rw [mrg_keep K A st _ (fun y hy => by have := h y hy; rw [List.length_cons] at this; show 1 + sumS A < y.2; omega)]
    exact fdS_keep K l _ st h2 fun y hy => by rw [h1]; have := h y hy; rw [List.length_cons] at this; show l.length + (1 + sumS A) < y.2; omega
theorem fdS_pow (K : Nat → Int) : ∀ (k : Nat) (l : List ByteArray) (st : List (ByteArray × Nat)), l.length = 2 ^ k → (∀ y ∈ st, 2 ^ k ≤ y.2) → fdS K l st = mrg K (rootR K l, 2 ^ k) st
  | 0, l, st, hl, _ => by
    obtain ⟨s, rfl⟩ := List.length_eq_one_iff.1 hl
    rw [rootR_one]
    rfl
  | k + 1, l, st, hl, h => by
    have hp := Nat.one_le_two_pow (n := k)
    have hk : 2 ^ (k + 1) = 2 * 2 ^ k := Nat.pow_succ'
    rw [rootR_two K (l := l) (by omega), hl, lef_pow]
    conv => lhs; rw [← List.take_append_drop (2 ^ k) l]
    rw [fdS_app, fdS_pow K k (l.take (2 ^ k)) st (by rw [List.length_take]; omega) (fun y hy => by have := h y hy; omega)]
    have e : mrg K (rootR K (l.take (2 ^ k)), 2 ^ k) st = (rootR K (l.take (2 ^ k)), 2 ^ k) :: st := by
      cases st with
      | nil => rfl
      | cons y st =>
        have := h y (by simp)
        unfold mrg
        rw [if_neg (by show ¬ y.2 = 2 ^ k; omega)]
    rw [e, fdS_pow K k (l.drop (2 ^ k)) _ (by rw [List.length_drop]; omega) (fun y hy => by
      rcases List.mem_cons.1 hy with rfl | hy
      · exact Nat.le_refl _
      · have := h y hy; omega)]
    conv => lhs; unfold mrg
    rw [if_pos rfl, hk]
theorem root_snoc (K : Nat → Int) (A : List (ByteArray × Nat)) (x : ByteArray × Nat) (h : A ≠ []) : rootS K (A ++ [x]) = nodeB K x.1 (rootS K A) := by
  cases A with
  | nil => exact absurd rfl h
  | cons a A =>
    show (A ++ [x]).foldl _ _ = _
    rw [List.foldl_append]
    rfl
/-- the stack's root is the recursive one -/
theorem rootB_R (K : Nat → Int) : ∀ (n : Nat) (l : List ByteArray), l.length ≤ n → rootB K l = rootR K l
  | 0, l, h => by
    obtain rfl : l = [] := List.eq_nil_of_length_eq_zero (by omega)
    rw [rootR_nil]
    rfl
  | n + 1, l, h => by
    rcases Nat.lt_or_ge l.length 2 with h2 | h2
    · rcases l with _ | ⟨s, _ | ⟨t, l⟩⟩
      · rw [rootR_nil]; rfl
      · rw [rootR_one]; rfl
      · simp at h2; omega
    · obtain ⟨⟨j, hj⟩, g2, g3, g4⟩ := lef_spec h2
      rw [rootR_two K h2]
      have hl2 := rootB_R K n (l.drop (lef l.length)) (by rw [List.length_drop]; omega)
      have hso := stk_ok K (l.drop (lef l.length))
      rw [List.length_drop] at hso
      have hne : stk K (l.drop (lef l.length)) ≠ [] := fun e => by
        have := hso.1
        rw [e] at this
        unfold sumS at this
        simp at this
        omega
      rw [← hl2]
      have e0 : stk K l = fdS K l [] := rfl
      unfold rootB
      rw [e0]
      conv => lhs; rw [← List.take_append_drop (lef l.length) l]
      have h3 := fdS_pow K j (l.take (lef l.length)) [] (by rw [List.length_take, hj]; omega) (fun y hy => by cases hy)
      rw [fdS_app, h3]
      show rootS K (fdS K (l.drop (lef l.length)) [(rootR K (l.take (lef l.length)), 2 ^ j)]) = _
      by_cases hlt : (l.drop (lef l.length)).length < 2 ^ j
      · have h4 := fdS_keep K (l.drop (lef l.length)) [] [(rootR K (l.take (lef l.length)), 2 ^ j)] (fun x hx => by cases hx) (fun y hy => by
          rw [List.mem_singleton.1 hy]
          exact hlt)
        rw [List.nil_append] at h4
        rw [h4]
        exact root_snoc _ _ _ hne
      · have hle : (l.drop (lef l.length)).length = 2 ^ j := by rw [List.length_drop] at hlt ⊢; omega
        have h4 := fdS_pow K j (l.drop (lef l.length)) [(rootR K (l.take (lef l.length)), 2 ^ j)] hle (fun y hy => by rw [List.mem_singleton.1 hy]; exact Nat.le_refl _)
        rw [h4]
        conv => lhs; unfold mrg
        rw [if_pos rfl]
        show nodeB K _ (rootR K (l.drop (lef l.length))) = _
        rw [← hl2]
        rfl
theorem rootB_eq (K : Nat → Int) (l : List ByteArray) : rootB K l = rootR K l := rootB_R K _ l (Nat.le_refl _)
/-- the strings whose digests make the root -/
def hshR (K : Nat → Int) (l : List ByteArray) : List ByteArray :=
  if _h0 : l.length = 0 then [⟨#[]⟩] else if _h1 : l.length = 1 then [⟨(0 :: (l.headD ⟨#[]⟩).data.toList).toArray⟩] else
    hshR K (l.take (lef l.length)) ++ hshR K (l.drop (lef l.length)) ++ [⟨(1 :: ((rootR K (l.take (lef l.length))).data.toList ++ (rootR K (l.drop (lef l.length))).data.toList)).toArray⟩]
termination_by l.length
decreasing_by
  · obtain ⟨_, h2, _, _⟩ := lef_spec (n := l.length) (by omega)
    rw [List.length_take]
    omega
  · obtain ⟨_, _, _, h4⟩ := lef_spec (n := l.length) (by omega)
    rw [List.length_drop]
    omega
theorem hshR_nil (K : Nat → Int) : hshR K [] = [⟨#[]⟩] := by rw [hshR]; exact dif_pos rfl
theorem hshR_one (K : Nat → Int) (s : ByteArray) : hshR K [s] = [⟨(0 :: s.data.toList).toArray⟩] := by rw [hshR, dif_neg (by simp)]; exact dif_pos rfl
theorem hshR_two (K : Nat → Int) {l : List ByteArray} (h : 2 ≤ l.length) : hshR K l = hshR K (l.take (lef l.length)) ++ hshR K (l.drop (lef l.length)) ++ [⟨(1 :: ((rootR K (l.take (lef l.length))).data.toList ++ (rootR K (l.drop (lef l.length))).data.toList)).toArray⟩] := by
  conv => lhs; rw [hshR]
  rw [dif_neg (by omega), dif_neg (by omega)]
/-- two different strings with one digest -/
def Coll (K : Nat → Int) (a b : List ByteArray) : Prop := ∃ x ∈ a, ∃ y ∈ b, x ≠ y ∧ sha K x.data.toList = sha K y.data.toList
/-- the string whose digest is the root -/
def topR (K : Nat → Int) (l : List ByteArray) : ByteArray := match l with
  | [] => ⟨#[]⟩
  | [s] => ⟨(0 :: s.data.toList).toArray⟩
  | l => ⟨(1 :: ((rootR K (l.take (lef l.length))).data.toList ++ (rootR K (l.drop (lef l.length))).data.toList)).toArray⟩
theorem topR_spec (K : Nat → Int) (l : List ByteArray) : topR K l ∈ hshR K l ∧ rootR K l = ⟨(sha K (topR K l).data.toList).toArray⟩ := by
  rcases l with _ | ⟨s, _ | ⟨t, l⟩⟩
  · rw [hshR_nil, rootR_nil]; exact ⟨by simp [topR], rfl⟩
  · rw [hshR_one, rootR_one]; exact ⟨by simp [topR], rfl⟩
  · rw [hshR_two K (l := s :: t :: l) (by simp), rootR_two K (l := s :: t :: l) (by simp)]
    exact ⟨List.mem_append_right _ (List.mem_singleton.2 rfl), rfl⟩
theorem toA_inj {x y : List UInt8} (h : (⟨x.toArray⟩ : ByteArray) = ⟨y.toArray⟩) : x = y := by
  have := congrArg (fun b : ByteArray => b.data.toList) h
  simpa using this
/-- lists with one root are the same, or two different strings have one digest -/
theorem root_inj (K : Nat → Int) : ∀ (n : Nat) (a b : List ByteArray), a.length ≤ n → rootR K a = rootR K b → a = b ∨ Coll K (hshR K a) (hshR K b) := by
  intro n
  induction n with
  | zero =>
    intro a b hn he
    obtain rfl : a = [] := List.eq_nil_of_length_eq_zero (by omega)
    obtain ⟨h1, h2⟩ := topR_spec K []
    obtain ⟨g1, g2⟩ := topR_spec K b
    by_cases ht : topR K [] = topR K b
    · left
      rcases b with _ | ⟨s, _ | ⟨t, b⟩⟩
      · rfl
      · exact absurd (toA_inj (x := []) ht) (by simp)
      · exact absurd (toA_inj (x := []) ht) (by simp)
    · exact .inr ⟨_, h1, _, g1, ht, toA_inj (by rw [← h2, ← g2]; exact he)⟩
  | succ n ih =>
    intro a b hn he
    obtain ⟨h1, h2⟩ := topR_spec K a
    obtain ⟨g1, g2⟩ := topR_spec K b
    by_cases ht : topR K a = topR K b
    · rcases Nat.lt_or_ge a.length 2 with ha | ha
      · left
        rcases a with _ | ⟨s, _ | ⟨t, a⟩⟩
        · rcases b with _ | ⟨s, _ | ⟨t, b⟩⟩
          · rfl
          · exact absurd (toA_inj (x := []) ht) (by simp)
          · exact absurd (toA_inj (x := []) ht) (by simp)
        · rcases b with _ | ⟨u, _ | ⟨t, b⟩⟩
          · exact absurd (toA_inj (y := []) ht) (by simp)
          · have := toA_inj ht
            rw [List.cons.injEq] at this
            rw [bytes_eq this.2]
          · have := toA_inj ht
            simp at this
        · simp at ha; omega
      · rcases Nat.lt_or_ge b.length 2 with hb | hb
        · rcases a with _ | ⟨s, _ | ⟨t, a⟩⟩
          · simp at ha
          · simp at ha
          · rcases b with _ | ⟨s, _ | ⟨t, b⟩⟩
            · exact absurd (toA_inj (y := []) ht) (by simp)
            · have := toA_inj ht
              simp at this
            · simp at hb; omega
        · have hta : topR K a = ⟨(1 :: ((rootR K (a.take (lef a.length))).data.toList ++ (rootR K (a.drop (lef a.length))).data.toList)).toArray⟩ := by
            rcases a with _ | ⟨s, _ | ⟨t, a⟩⟩
            · simp at ha
            · simp at ha
            · rfl
          have htb : topR K b = ⟨(1 :: ((rootR K (b.take (lef b.length))).data.toList ++ (rootR K (b.drop (lef b.length))).data.toList)).toArray⟩ := by
            rcases b with _ | ⟨s, _ | ⟨t, b⟩⟩
            · simp at hb
            · simp at hb
            · rfl
          rw [hta, htb] at ht
          have e := toA_inj ht
          rw [List.cons.injEq] at e
          have hs : ∀ l, (rootR K l).data.toList.length = 32 := fun l => by rw [Array.length_toList]; exact rootR_size K l
          have e2 := List.append_inj e.2 (by rw [hs, hs])
          obtain ⟨_, a2, _, a4⟩ := lef_spec ha
          rcases ih (a.take (lef a.length)) (b.take (lef b.length)) (by rw [List.length_take]; omega) (bytes_eq e2.1) with i1 | ⟨x, hx, y, hy, hxy⟩
          · rcases ih (a.drop (lef a.length)) (b.drop (lef b.length)) (by rw [List.length_drop]; omega) (bytes_eq e2.2) with i2 | ⟨x, hx, y, hy, hxy⟩
            · left
              rw [← List.take_append_drop (lef a.length) a, i1, i2, List.take_append_drop]
            · right
              rw [hshR_two K ha, hshR_two K hb]
              exact ⟨x, by simp [hx], y, by simp [hy], hxy⟩
          · right
            rw [hshR_two K ha, hshR_two K hb]
            exact ⟨x, by simp [hx], y, by simp [hy], hxy⟩
    · exact .inr ⟨_, h1, _, g1, ht, toA_inj (by rw [← h2, ← g2]; exact he)⟩
end Go.Proofs.YtnlphbfjeekooaaGreatDoor.RW

/-
  Sets that are made of facts, plain: what they hold, and when two of them are the same: no program in sight.
-/
namespace Go.Proofs.YtnlphbfjeekooaaGreatDoor.RW
open Go Go.RowKit
noncomputable def vdB (x : Fc) : Bool := validB x.1 x.2.size
def cutS (s : ByteArray) : ByteArray := s.extract 0 (min s.size 2100)
theorem cutS_size (s : ByteArray) : (cutS s).size ≤ 2100 := by unfold cutS; simp; omega
def cutX (x : Fc) : Fc := (x.1, cutS x.2)
/-- at most 25 facts with short texts -/
def cutF (l : List Fc) : List Fc := (l.take 25).map cutX
theorem cutF_len (l : List Fc) : (cutF l).length ≤ 25 := by unfold cutF; rw [List.length_map, List.length_take]; omega
def Shrt (l : List Fc) : Prop := ∀ x ∈ l, x.2.size ≤ 2100
theorem cutF_short (l : List Fc) : Shrt (cutF l) := fun x hx => by
  obtain ⟨y, _, rfl⟩ := List.mem_map.1 hx
  exact cutS_size _
/-- facts are added one after another -/
noncomputable def ofE (K : Nat → Int) (C : Ents) (l : List Fc) : Ents := l.foldl (fun C x => (addR K C x).2.2) C
theorem ofE_snoc (K : Nat → Int) (C : Ents) (l : List Fc) (x : Fc) : ofE K C (l ++ [x]) = (addR K (ofE K C l) x).2.2 := by unfold ofE; rw [List.foldl_append]; rfl
/-- what a set holds that was made of facts -/
structure OfC (K : Nat → Int) (l : List Fc) (C : Ents) : Prop where
  asc : AscE C
  sub : ∀ x ∈ C, ∃ y ∈ l, vdB y = true ∧ idB K y = x.1 ∧ x.2 = fv y
  all : ∀ y ∈ l, vdB y = true → (KM.get (idB K y) C).isSome = true
  len : C.length ≤ (l.filter vdB).length
theorem OfC.nil (K : Nat → Int) : OfC K [] [] := ⟨List.Pairwise.nil, (fun _ h => by cases h), (fun _ h => by cases h), Nat.le_refl _⟩
theorem OfC.le {K : Nat → Int} {l : List Fc} {C : Ents} (h : OfC K l C) : C.length ≤ l.length := Nat.le_trans h.len (List.length_filter_le _ _)
theorem OfC.add {K : Nat → Int} {l : List Fc} {C : Ents} (h : OfC K l C) (hl : l.length < 4000) (x : Fc) : OfC K (l ++ [x]) (addR K C x).2.2 := by
  have hmem : ∀ y ∈ l ++ [x], y ∈ l ∨ y = x := fun y hy => by simpa using hy
  cases hv : vdB x with
  | false =>
    rw [addR_bad hv]
    refine ⟨h.asc, fun y hy => ?_, fun y hy hvy => ?_, ?_⟩
    · obtain ⟨z, hz, hh⟩ := h.sub y hy
      exact ⟨z, by simp [hz], hh⟩
    · rcases hmem y hy with hy | rfl
      · exact h.all y hy hvy
      · rw [hv] at hvy; cases hvy
    · rw [List.filter_append]
      simp only [List.length_append]
      exact Nat.le_trans h.len (Nat.le_add_right _ _)
  | true =>
    cases hk : (KM.get (idB K x) C).isSome with
    | true =>
      rw [addR_known hv hk]
      refine ⟨h.asc, fun y hy => ?_, fun y hy hvy => ?_, ?_⟩
      · obtain ⟨z, hz, hh⟩ := h.sub y hy
        exact ⟨z, by simp [hz], hh⟩
      · rcases hmem y hy with hy | rfl
        · exact h.all y hy hvy
        · exact hk
      · rw [List.filter_append]
        simp only [List.length_append]
        exact Nat.le_trans h.len (Nat.le_add_right _ _)
    | false =>
      rw [addR_new hv hk (by have := h.le; omega)]
      refine ⟨asc_insE _ _ h.asc, fun y hy => ?_, fun y hy hvy => ?_, ?_⟩
      · rcases mem_insE hy with rfl | hy
        · exact ⟨x, by simp, hv, rfl, rfl⟩
        · obtain ⟨z, hz, hh⟩ := h.sub y hy
          exact ⟨z, by simp [hz], hh⟩
      · show (KM.get (idB K y) (insE (idB K x) (fv x) C)).isSome = true
        rw [get_insE _ _ _ h.asc, hk]
        show (if idB K y = idB K x then some (fv x) else KM.get (idB K y) C).isSome = true
        by_cases e : idB K y = idB K x
        · rw [if_pos e]; rfl
        · rw [if_neg e]
          rcases hmem y hy with hy | rfl
          · exact h.all y hy hvy
          · exact absurd rfl e
      · show (insE (idB K x) (fv x) C).length ≤ _
        rw [length_insE _ _ h.asc, hk, List.filter_append, List.length_append, List.filter_cons, if_pos hv, List.filter_nil]
        have := h.len
        show C.length + 1 ≤ (l.filter vdB).length + 1
        omega
theorem OfC.of (K : Nat → Int) : ∀ (n : Nat) (l : List Fc), l.length = n → n ≤ 4000 → OfC K l (ofE K [] l)
  | 0, l, h, _ => by
    obtain rfl : l = [] := List.eq_nil_of_length_eq_zero h
    exact OfC.nil K
  | n + 1, l, h, hn => by
    obtain ⟨m, x, rfl⟩ : ∃ m x, l = m ++ [x] := by
      rcases List.eq_nil_or_concat l with rfl | ⟨m, x, e⟩
      · cases h
      · exact ⟨m, x, by rw [e, List.concat_eq_append]⟩
    rw [List.length_append, List.length_singleton] at h
    rw [ofE_snoc]
    exact (OfC.of K n m (by omega) (by omega)).add (by omega) x
theorem OfC.uni {K : Nat → Int} {l m : List Fc} {C D : Ents} (h : OfC K l C) (g : OfC K m D) : OfC K (l ++ m) (uniE D C) := by
  refine ⟨asc_uniE D h.asc, fun x hx => ?_, fun y hy hv => ?_, ?_⟩
  · have hg := KM.get_of_mem (AscB.nodup (asc_uniE D h.asc)) (show (x.1, x.2) ∈ uniE D C from hx)
    rw [get_uniE _ D (AscB.nodup g.asc) h.asc] at hg
    cases e : KM.get x.1 D with
    | some v =>
      rw [e] at hg
      obtain ⟨z, hz, h1, h2, h3⟩ := g.sub _ (KM.get_mem e)
      exact ⟨z, by simp [hz], h1, h2, (Option.some.inj hg).symm.trans h3⟩
    | none =>
      rw [e] at hg
      obtain ⟨z, hz, h1, h2, h3⟩ := h.sub _ (KM.get_mem hg)
      exact ⟨z, by simp [hz], h1, h2, h3⟩
  · rw [get_uniE _ D (AscB.nodup g.asc) h.asc]
    rcases List.mem_append.1 hy with hy | hy
    · have := h.all y hy hv
      cases KM.get (idB K y) D with
      | some v => rfl
      | none => exact this
    · have := g.all y hy hv
      cases e : KM.get (idB K y) D with
      | some v => rfl
      | none => rw [e] at this; cases this
  · rw [uniE_len g.asc h.asc, List.filter_append, List.length_append]
    have h1 := h.len
    have h2 := g.len
    have h3 := List.length_filter_le (fun x => !(KM.get x C).isSome) (D.map (·.1))
    rw [List.length_map] at h3
    omega
theorem OfC.le_uni {K : Nat → Int} {l m : List Fc} {C D : Ents} (h : OfC K l C) (g : OfC K m D) : (uniE D C).length ≤ l.length + m.length := by
  have := (h.uni g).le
  rwa [List.length_append] at this
/-- two different valid facts with one ID -/
def TwP (K : Nat → Int) (l : List Fc) : Prop := ∃ x ∈ l, ∃ y ∈ l, vdB x = true ∧ vdB y = true ∧ encL x.1 x.2.data.toList ≠ encL y.1 y.2.data.toList ∧ idB K x = idB K y
theorem fv_of_enc {x y : Fc} (hx : vdB x = true) (hy : vdB y = true) (h : encL x.1 x.2.data.toList = encL y.1 y.2.data.toList) : fv x = fv y := by
  obtain ⟨h1, _, _, h2⟩ := valid_lims x.1 x.2.size hx
  obtain ⟨h3, _, _, h4⟩ := valid_lims y.1 y.2.size hy
  have e1 := decF_enc x.1 x.2.data.toList h2 (by rw [Array.length_toList]; show x.2.size ≤ _; omega)
  have e2 := decF_enc y.1 y.2.data.toList h4 (by rw [Array.length_toList]; show y.2.size ≤ _; omega)
  rw [h, e2] at e1
  simp only [Option.some.injEq, Prod.mk.injEq] at e1
  have h5 : ∀ i, i < 17 → x.1 i = y.1 i := fun i hi => by
    have h6 := congrFun e1.1 i
    unfold low at h6
    rw [if_pos hi, if_pos hi] at h6
    exact h6.symm
  have h6 : x.2 = y.2 := bytes_ext e1.2.symm
  unfold fv fcells
  rw [h6]
  simp only [h5 0 (by decide), h5 1 (by decide), h5 2 (by decide), h5 3 (by decide), h5 4 (by decide), h5 5 (by decide), h5 6 (by decide), h5 7 (by decide), h5 8 (by decide), h5 9 (by decide), h5 10 (by decide), h5 11 (by decide), h5 12 (by decide), h5 13 (by decide), h5 14 (by decide), h5 15 (by decide), h5 16 (by decide)]
theorem OfC.one {K : Nat → Int} {l m : List Fc} {C D : Ents} (h : OfC K l C) (g : OfC K m D) (hm : ∀ x, x ∈ l → x ∈ m) (hl : ∀ x, x ∈ m → x ∈ l) (ht : ¬ TwP K l) {k : ByteArray} {v : Value} (hv : KM.get k C = some v) : KM.get k D = some v := by
  obtain ⟨y, hy, h1, h2, h3⟩ := h.sub _ (KM.get_mem hv)
  have h4 := g.all y (hm y hy) h1
  rw [h2] at h4
  obtain ⟨v', hv'⟩ := Option.isSome_iff_exists.1 h4
  obtain ⟨z, hz, g1, g2, g3⟩ := g.sub _ (KM.get_mem hv')
  rw [hv']
  congr 1
  show (k, v').2 = (k, v).2
  rw [g3, h3]
  by_cases e : encL z.1 z.2.data.toList = encL y.1 y.2.data.toList
  · exact fv_of_enc g1 h1 e
  · exact absurd ⟨z, hl z hz, y, hy, g1, h1, e, by rw [g2, h2]⟩ ht
/-- without twins, the order makes no difference -/
theorem OfC.same {K : Nat → Int} {l m : List Fc} {C D : Ents} (h : OfC K l C) (g : OfC K m D) (hm : ∀ x, x ∈ l → x ∈ m) (hl : ∀ x, x ∈ m → x ∈ l) (ht : ¬ TwP K l) : C = D := by
  refine asc_ext h.asc g.asc fun k => ?_
  cases e : KM.get k C with
  | some v => exact (h.one g hm hl ht e).symm
  | none =>
    cases e2 : KM.get k D with
    | none => rfl
    | some v =>
      have ht2 : ¬ TwP K m := fun ⟨x, hx, y, hy, hh⟩ => ht ⟨x, hl x hx, y, hl y hy, hh⟩
      have := g.one h hl hm ht2 e2
      rw [e] at this
      cases this
theorem sha_len7 (K : Nat → Int) (l : List UInt8) : (sha K l).length = 32 := by simp [sha, dig]
theorem idB_32 (K : Nat → Int) (x : Fc) : (idB K x).size = 32 := by
  show (sha K (encL x.1 x.2.data.toList)).toArray.size = 32
  rw [List.size_toArray, sha_len7]
theorem OfC.key {K : Nat → Int} {l : List Fc} {C : Ents} (h : OfC K l C) : ∀ x ∈ C, x.1.size = 32 := fun x hx => by
  obtain ⟨y, _, _, e, _⟩ := h.sub x hx
  rw [← e, idB_32]
theorem OfC.keyle {K : Nat → Int} {l : List Fc} {C : Ents} (h : OfC K l C) : ∀ x ∈ C, x.1.size ≤ 1000000 := fun x hx => by rw [h.key x hx]; decide
/-- the facts of a set, in the order of their IDs -/
theorem facts_of {C : Ents} (h : FVs C) : ∃ ks : List Fc, C.map (·.2) = ks.map fv := by
  induction C with
  | nil => exact ⟨[], rfl⟩
  | cons x C ih =>
    obtain ⟨ks, hk⟩ := ih fun y hy => h y (by simp [hy])
    obtain ⟨y, hy⟩ := h x (by simp)
    exact ⟨y :: ks, by rw [List.map_cons, List.map_cons, hk, hy]⟩
end Go.Proofs.YtnlphbfjeekooaaGreatDoor.RW

/-
  Sets that are made of facts, plain: their entries one by one, their parts: no program in sight.
-/
namespace Go.Proofs.YtnlphbfjeekooaaGreatDoor.RW
open Go Go.RowKit
def ent (K : Nat → Int) (y : Fc) : ByteArray × Value := (idB K y, fv y)
/-- the entries are facts with their IDs -/
theorem ents_of {K : Nat → Int} {l : List Fc} : ∀ {C : Ents}, (∀ x ∈ C, ∃ y ∈ l, vdB y = true ∧ idB K y = x.1 ∧ x.2 = fv y) → ∃ ks : List Fc, C = ks.map (ent K) ∧ ∀ y ∈ ks, y ∈ l ∧ vdB y = true
  | [], _ => ⟨[], rfl, fun _ h => by cases h⟩
  | x :: C, h => by
    obtain ⟨ks, hk, hv⟩ := ents_of (C := C) fun y hy => h y (by simp [hy])
    obtain ⟨y, h0, h1, h2, h3⟩ := h x (by simp)
    refine ⟨y :: ks, ?_, fun z hz => ?_⟩
    · rw [List.map_cons, hk]
      congr 1
      exact Prod.ext h2.symm h3
    · rcases List.mem_cons.1 hz with rfl | hz
      · exact ⟨h0, h1⟩
      · exact hv z hz
theorem OfC.list {K : Nat → Int} {l : List Fc} {C : Ents} (h : OfC K l C) : ∃ ks : List Fc, C = ks.map (ent K) ∧ ∀ y ∈ ks, y ∈ l ∧ vdB y = true := ents_of h.sub
theorem OfC.fvs {K : Nat → Int} {l : List Fc} {C : Ents} (h : OfC K l C) : FVs C := fun x hx => by
  obtain ⟨y, _, _, _, e⟩ := h.sub x hx
  exact ⟨y, e⟩
theorem OfC.nokey {K : Nat → Int} {l : List Fc} {C : Ents} (h : OfC K l C) {k : ByteArray} (hk : k.size ≠ 32) : KM.get k C = none := KM.get_none.2 fun x hx e => hk (by rw [← e, h.key x hx])
theorem asc_partE (C : Ents) (l : List ByteArray) : AscE (partE C l) := by
  unfold partE
  have key : ∀ (l : List ByteArray) (A : Ents), AscE A → AscE (l.foldl (fun a k => updE k ((KM.get k C).getD (fv zeroFv)) a) A) := by
    intro l
    induction l with
    | nil => exact fun A h => h
    | cons x l ih => exact fun A h => ih _ (asc_updE _ _ h)
  exact key l [] List.Pairwise.nil
theorem get_partE (C : Ents) (k : ByteArray) : ∀ (n : Nat) (l : List ByteArray), l.length = n → (k ∈ l → KM.get k (partE C l) = some ((KM.get k C).getD (fv zeroFv))) ∧ (¬ k ∈ l → KM.get k (partE C l) = none)
  | 0, l, h => by
    obtain rfl : l = [] := List.eq_nil_of_length_eq_zero h
    exact ⟨fun h => absurd h (by simp), fun _ => KM.get_nil _⟩
  | n + 1, l, h => by
    obtain ⟨m, x, rfl⟩ : ∃ m x, l = m ++ [x] := by
      rcases List.eq_nil_or_concat l with rfl | ⟨m, x, e⟩
      · cases h
      · exact ⟨m, x, by rw [e, List.concat_eq_append]⟩
    rw [List.length_append, List.length_singleton] at h
    obtain ⟨h1, h2⟩ := get_partE C k n m (by omega)
    rw [partE_snoc, get_updE _ _ _ (asc_partE C m)]
    by_cases e : k = x
    · subst e
      rw [if_pos rfl]
      exact ⟨fun _ => rfl, fun h => absurd (by simp) h⟩
    · rw [if_neg e]
      exact ⟨fun h => h1 (by simpa [e] using h), fun h => h2 fun g => h (by simp [g])⟩
theorem get_part {C : Ents} {k : ByteArray} {l : List ByteArray} (h : k ∈ l) : KM.get k (partE C l) = some ((KM.get k C).getD (fv zeroFv)) := (get_partE C k _ l rfl).1 h
theorem get_part_no {C : Ents} {k : ByteArray} {l : List ByteArray} (h : ¬ k ∈ l) : KM.get k (partE C l) = none := (get_partE C k _ l rfl).2 h
theorem keys_part {C : Ents} {k : ByteArray} {l : List ByteArray} : k ∈ (partE C l).map (·.1) ↔ k ∈ l := by
  rw [← get_isSome]
  by_cases h : k ∈ l
  · rw [get_part h]; exact ⟨fun _ => h, fun _ => rfl⟩
  · rw [get_part_no h]; exact ⟨(fun h => by cases h), fun g => absurd g h⟩
/-- a part of ascending strings has just these -/
theorem part_ids {C : Ents} {l s : List ByteArray} (hs : AscB s) (h : ∀ x, x ∈ l ↔ x ∈ s) : (partE C l).map (·.1) = s := asc_uniq (asc_partE C l) hs fun x => by rw [keys_part, h]
theorem part_get {C : Ents} {l : List ByteArray} {k : ByteArray} (hk : k ∈ l) (hC : (KM.get k C).isSome = true) : KM.get k (partE C l) = KM.get k C := by
  rw [get_part hk]
  obtain ⟨v, hv⟩ := Option.isSome_iff_exists.1 hC
  rw [hv]
  rfl
/-- uniting a part with the set changes nothing -/
theorem part_uni {C : Ents} {l : List ByteArray} (hC : AscE C) (h : ∀ k ∈ l, (KM.get k C).isSome = true) : uniE (partE C l) C = C := by
  refine asc_ext (asc_uniE _ hC) hC fun k => ?_
  rw [get_uniE _ _ (AscB.nodup (asc_partE C l)) hC]
  by_cases hk : k ∈ l
  · rw [get_part hk]
    obtain ⟨v, hv⟩ := Option.isSome_iff_exists.1 (h k hk)
    rw [hv]
    rfl
  · rw [get_part_no hk]
theorem part_len {C : Ents} {l s : List ByteArray} (hs : s.Nodup) (h : ∀ x ∈ s, x ∈ l) : s.length ≤ (partE C l).length := by
  have := nodup_len s ((partE C l).map (·.1)) hs fun x hx => keys_part.2 (h x hx)
  rwa [List.length_map] at this
/-- uniting twice changes nothing -/
theorem uni_again {C D E : Ents} (hC : AscE C) (hD : AscE D) (h : ∀ k v, KM.get k D = some v → KM.get k C = some v) (hE : E = uniE D C) : E = C := by
  subst hE
  refine asc_ext (asc_uniE _ hC) hC fun k => ?_
  rw [get_uniE _ _ (AscB.nodup hD) hC]
  cases e : KM.get k D with
  | some v => rw [h k v e]
  | none => rfl
theorem missB_nil {p : ByteArray → Bool} {l : List ByteArray} (h : ∀ x ∈ l, p x = true) : missB p l = [] := by
  refine List.eq_nil_iff_forall_not_mem.2 fun x hx => ?_
  have := mem_missB.1 hx
  rw [h x this.1] at this
  cases this.2
theorem missB_one {p : ByteArray → Bool} {l : List ByteArray} {m : ByteArray} (hm : m ∈ l) (hp : p m = false) (h : ∀ x ∈ l, x = m ∨ p x = true) : missB p l = [m] := by
  refine asc_uniq (uqB_asc _) (List.pairwise_singleton _ _) fun x => ?_
  rw [mem_missB, List.mem_singleton]
  constructor
  · rintro ⟨hx, hpx⟩
    rcases h x hx with e | e
    · exact e
    · rw [e] at hpx; cases hpx
  · rintro rfl
    exact ⟨hm, hp⟩
/-- the elements whose bits are set -/
def selB (w : Nat) : List ByteArray → List ByteArray
  | [] => []
  | x :: l => if w % 2 = 1 then x :: selB (w / 2) l else selB (w / 2) l
end Go.Proofs.YtnlphbfjeekooaaGreatDoor.RW

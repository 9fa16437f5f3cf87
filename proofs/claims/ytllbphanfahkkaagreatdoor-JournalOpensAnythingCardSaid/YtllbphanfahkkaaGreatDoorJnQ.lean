/-
  Journals, plain: what Append and Open keep, whatever survives a power failure: no program in sight.
-/
import Derived.Test.YtllbphanfahkkaaGreatDoorMY3
namespace Go.Proofs.YtllbphanfahkkaaGreatDoor.RW
open Go Go.RowKit
theorem lay_mid (a b b' c : List UInt8) (h : b.length = b'.length) : lay (a ++ (b ++ c)) a.length b' = a ++ (b' ++ c) := by
  unfold lay Go.splice
  rw [List.take_left, ← List.drop_drop, List.drop_left, ← h, List.drop_left]
theorem lay_at (a b b' c : List UInt8) (o : Nat) (ho : o = a.length) (h : b.length = b'.length) : lay (a ++ (b ++ c)) o b' = a ++ (b' ++ c) := by
  subst ho
  exact lay_mid a b b' c h
theorem lay_none (l : List UInt8) (o : Nat) : lay l o [] = l := by simp [lay, Go.splice]
section
variable (H : List UInt8 → List UInt8)
/-- what lies on a disk of n bytes: the records, then zeros -/
def cont (n : Nat) (rs : List ByteArray) : List UInt8 := stos H z32 rs ++ List.replicate (n - (stos H z32 rs).length) 0
structure JInv (n : Nat) (S : Dk) (rs : List ByteArray) : Prop where
  vis : S.vis = cont H n rs
  dur : S.dur = cont H n rs
  pend : S.pend = []
  off : S.off = false
  fits : (stos H z32 rs).length ≤ n
  lims : ∀ r ∈ rs, r.size ≤ 65536
theorem cont_len {n : Nat} {rs : List ByteArray} (h : (stos H z32 rs).length ≤ n) : (cont H n rs).length = n := by
  unfold cont
  rw [List.length_append, List.length_replicate]
  omega
theorem zeros_head (k : Nat) : List.replicate k (0 : UInt8) = [] ∨ ∃ t, List.replicate k (0 : UInt8) = 0 :: t := by
  cases k with
  | zero => exact .inl rfl
  | succ k => exact .inr ⟨_, rfl⟩
theorem cont_load (hH : ∀ l, (H l).length = 32) {n : Nat} {rs : List ByteArray} (hs : ∀ r ∈ rs, r.size ≤ 65536) : ldL H z32 (cont H n rs) = some (rs, (stos H z32 rs).length) :=
  ldL_complete H hH rs z32 _ hs (zeros_head _)
theorem cont_drop (n : Nat) (rs : List ByteArray) : (cont H n rs).drop (stos H z32 rs).length = List.replicate (n - (stos H z32 rs).length) 0 := by
  unfold cont
  rw [List.drop_left]
/-- opening a disk that holds records and zeros changes nothing -/
theorem jopen_inv (hH : ∀ l, (H l).length = 32) {n : Nat} {S : Dk} {rs : List ByteArray} (h : JInv H n S rs) : jopen H n S = (0, some rs, S) := by
  unfold jopen
  rw [h.off, h.vis, cont_load H hH h.lims]
  simp only [Bool.false_eq_true, if_false, cont_drop]
  rw [if_pos (by simp)]
/-- a write and a sync on a disk with power, nothing pending -/
theorem wrsy_cases {n : Nat} {S : Dk} {o : Nat} {s : List UInt8} (hoff : S.off = false) (hp : S.pend = []) (hf : o + s.length ≤ n) :
    (wrsy n S o s = (0, ⟨false, (used S.off S.left).2, lay S.vis o s, lay S.vis o s, []⟩) ∧ (used S.off S.left).1 = false) ∨ wrsy n S o s = (221, ⟨true, (used S.off S.left).2, S.dur, lay S.vis o s, [(o, strOf s)]⟩) := by
  have hw : S.write n (o : Int) (strOf s) = (0, ⟨(used S.off S.left).1, (used S.off S.left).2, S.dur, lay S.vis o s, [(o, strOf s)]⟩) := by
    unfold Dk.write
    rw [if_neg (by rw [hoff]; simp), if_pos ((insB_iff n _ _).2 ⟨by omega, by omega, by omega, by rw [strOf_size]; omega⟩), hp, strOf_list, Int.toNat_natCast]
    rfl
  unfold wrsy
  rw [hw]
  simp only [ne_eq, not_true_eq_false, if_false]
  rcases hu : (used S.off S.left).1 with _ | _
  · left
    unfold Dk.sync
    simp
  · right
    unfold Dk.sync
    simp
theorem used_zero {off : Bool} : used off 0 = (off, 0) := rfl
/-- a write and a sync while no loss of power is scheduled -/
theorem wrsy_ok {n : Nat} {S : Dk} {o : Nat} {s : List UInt8} (hoff : S.off = false) (hl : S.left = 0) (hp : S.pend = []) (hf : o + s.length ≤ n) : wrsy n S o s = (0, ⟨false, 0, lay S.vis o s, lay S.vis o s, []⟩) := by
  rcases wrsy_cases (n := n) hoff hp hf with ⟨h, _⟩ | h
  · rw [h, hl]
    rfl
  · exfalso
    have hu : used S.off S.left = (false, 0) := by rw [hoff, hl]; rfl
    unfold wrsy at h
    have hw : S.write n (o : Int) (strOf s) = (0, ⟨false, 0, S.dur, lay S.vis o s, [(o, strOf s)]⟩) := by
      unfold Dk.write
      rw [if_neg (by rw [hoff]; simp), if_pos ((insB_iff n _ _).2 ⟨by omega, by omega, by omega, by rw [strOf_size]; omega⟩), hp, strOf_list, Int.toNat_natCast, hu]
      rfl
    rw [hw] at h
    simp [Dk.sync] at h
/-- what may lie on a disk after a crash: records, then a byte 0 or nothing -/
def Lies (n : Nat) (c : List UInt8) (rs : List ByteArray) : Prop := c.length = n ∧ (∀ r ∈ rs, r.size ≤ 65536) ∧ ∃ t, c = stos H z32 rs ++ t ∧ (t = [] ∨ ∃ u, t = 0 :: u)
theorem Lies.of_cont {n : Nat} {rs : List ByteArray} (h : (stos H z32 rs).length ≤ n) (hs : ∀ r ∈ rs, r.size ≤ 65536) : Lies H n (cont H n rs) rs := ⟨cont_len H h, hs, _, rfl, zeros_head _⟩
theorem Lies.load (hH : ∀ l, (H l).length = 32) {n : Nat} {c : List UInt8} {rs : List ByteArray} (h : Lies H n c rs) : ldL H z32 c = some (rs, (stos H z32 rs).length) := by
  obtain ⟨_, hs, t, rfl, ht⟩ := h
  exact ldL_complete H hH rs z32 t hs ht
theorem Lies.fits {n : Nat} {c : List UInt8} {rs : List ByteArray} (h : Lies H n c rs) : (stos H z32 rs).length ≤ n := by
  obtain ⟨h1, _, t, rfl, _⟩ := h
  rw [List.length_append] at h1
  omega
/-- opening after a crash -/
theorem jopen_lies (hH : ∀ l, (H l).length = 32) {n : Nat} {c : List UInt8} {rs : List ByteArray} (h : Lies H n c rs) : ∃ S', jopen H n ⟨false, 0, c, c, []⟩ = (0, some rs, S') ∧ JInv H n S' rs ∧ S'.left = 0 := by
  have hl := h.load H hH
  have hf := h.fits H
  obtain ⟨h1, h2, t, rfl, _⟩ := h
  unfold jopen
  simp only [Bool.false_eq_true, if_false, hl, List.drop_left]
  by_cases hz : t.all (fun b => decide (b = 0)) = true
  · rw [if_pos hz]
    have ht : t = List.replicate (n - (stos H z32 rs).length) 0 := by
      rw [List.length_append] at h1
      rw [List.eq_replicate_iff]
      refine ⟨by omega, fun b hb => ?_⟩
      simpa using List.all_eq_true.1 hz b hb
    refine ⟨_, rfl, ⟨?_, ?_, rfl, rfl, hf, h2⟩, rfl⟩
    · show _ = cont H n rs
      unfold cont
      rw [← ht]
    · show _ = cont H n rs
      unfold cont
      rw [← ht]
  · rw [if_neg hz]
    have hw := wrsy_ok (n := n) (S := ⟨false, 0, stos H z32 rs ++ t, stos H z32 rs ++ t, []⟩) (o := (stos H z32 rs).length) (s := List.replicate (n - (stos H z32 rs).length) 0) rfl rfl rfl (by rw [List.length_replicate]; omega)
    have hlay : lay (stos H z32 rs ++ t) (stos H z32 rs).length (List.replicate (n - (stos H z32 rs).length) 0) = cont H n rs := by
      rw [List.length_append] at h1
      have := lay_mid (stos H z32 rs) t (List.replicate (n - (stos H z32 rs).length) 0) [] (by rw [List.length_replicate]; omega)
      rw [List.append_nil, List.append_nil] at this
      exact this
    unfold wrsy at hw
    split at hw
    · rename_i hne
      rw [hw] at hne
      exact absurd rfl hne
    · rename_i hne
      rw [if_neg hne]
      simp only [hw, ne_eq, not_true_eq_false, if_false]
      exact ⟨_, rfl, ⟨hlay, hlay, rfl, rfl, hf, h2⟩, rfl⟩
/-- what an Append may leave: nothing has changed; all is there; or the power is lost, and after the crash there are the records before it, or all -/
inductive JOut (n : Nat) (S : Dk) (rs l : List ByteArray) : Int × List ByteArray × Bool × Dk → Prop
  | same (e : Int) (h : e = 230 ∨ e = 231) : JOut n S rs l (e, rs, false, S)
  | empty (h : l = []) : JOut n S rs l (0, rs, false, S)
  | all (S' : Dk) (h : JInv H n S' (rs ++ l)) (h0 : S.left = 0 → S'.left = 0) : JOut n S rs l (0, rs ++ l, false, S')
  | lost (S' : Dk) (hoff : S'.off = true) (h0 : S.left ≠ 0) (h : ∃ (o : Nat) (s : List UInt8), S'.pend = [(o, strOf s)] ∧ o + s.length ≤ n ∧ ∀ k, k ≤ s.length → (Lies H n (lay S'.dur o (s.take k)) rs ∨ Lies H n (lay S'.dur o (s.take k)) (rs ++ l))) : JOut n S rs l (221, rs, true, S')
theorem used_off {off : Bool} {left : Nat} (h : off = false) (hu : (used off left).1 = false) : left = 0 → (used off left).2 = 0 := by
  intro h0
  subst h0
  rfl
theorem japp_out (hH : ∀ l, (H l).length = 32) {n : Nat} {S : Dk} {rs : List ByteArray} (h : JInv H n S rs) (l : List ByteArray) : JOut H n S rs l (japp H n S rs false l) := by
  unfold japp
  by_cases hlong : l.any (fun r => decide (65536 < r.size)) = true
  · rw [if_pos (.inr hlong)]
    exact .same 230 (.inl rfl)
  rw [if_neg (by simp only [Bool.false_eq_true, false_or]; exact hlong)]
  have hl : ∀ r ∈ l, r.size ≤ 65536 := fun r hr => by
    have h1 : ¬ 65536 < r.size := fun e => hlong (List.any_eq_true.2 ⟨r, hr, decide_eq_true e⟩)
    omega
  have hall : ∀ r ∈ rs ++ l, r.size ≤ 65536 := fun r hr => (List.mem_append.1 hr).elim (h.lims r) (hl r)
  by_cases hfull : n - (stos H z32 rs).length < (stos H (hds H z32 rs) l).length
  · rw [if_pos hfull]
    exact .same 231 (.inr rfl)
  rw [if_neg hfull]
  by_cases hnil : l = []
  · rw [if_pos hnil]
    exact .empty hnil
  rw [if_neg hnil]
  have hf := h.fits
  obtain ⟨out, hout⟩ : ∃ o, o = stos H (hds H z32 rs) l := ⟨_, rfl⟩
  obtain ⟨A, hA⟩ : ∃ a, a = stos H z32 rs := ⟨_, rfl⟩
  have happ : stos H z32 (rs ++ l) = A ++ out := by rw [stos_app, hA, hout]
  obtain ⟨o1, ho1⟩ : ∃ t, out = 1 :: t := by
    rw [hout]
    cases l with
    | nil => exact absurd rfl hnil
    | cons r l => exact ⟨_, rfl⟩
  rw [← hout] at hfull ⊢
  rw [← hA] at hfull hf ⊢
  have hrest : ∃ q, List.replicate (n - A.length) (0 : UInt8) = 0 :: (List.replicate o1.length 0 ++ q) ∧ q = List.replicate (n - (A ++ out).length) 0 := by
    refine ⟨_, ?_, rfl⟩
    rw [ho1] at hfull ⊢
    rw [List.length_append, List.length_cons]
    rw [List.length_cons] at hfull
    rw [show n - A.length = (o1.length + (n - (A.length + (o1.length + 1)))) + 1 by omega, List.replicate_succ, ← List.replicate_append_replicate]
  obtain ⟨q, hq, hq2⟩ := hrest
  have hvis : S.vis = (A ++ [0]) ++ (List.replicate o1.length 0 ++ q) := by
    rw [h.vis]
    unfold cont
    rw [← hA, hq]
    simp
  have hdur : S.dur = (A ++ [0]) ++ (List.replicate o1.length 0 ++ q) := by
    rw [h.dur]
    unfold cont
    rw [← hA, hq]
    simp
  have hlen1 : A.length + 1 + o1.length + q.length = n := by
    have e := cont_len H h.fits
    rw [← h.vis, hvis] at e
    simp at e
    omega
  have hd1 : out.drop 1 = o1 := by rw [ho1]; rfl
  have ht1 : out.take 1 = [1] := by rw [ho1]; rfl
  rw [hd1, ht1]
  have hlay1 : ∀ k, k ≤ o1.length → ∃ u, lay S.dur (A.length + 1) (o1.take k) = A ++ 0 :: u ∧ u.length + A.length + 1 = n := fun k hk => by
    rw [hdur]
    have e : List.replicate o1.length (0 : UInt8) ++ q = List.replicate k 0 ++ (List.replicate (o1.length - k) 0 ++ q) := by
      rw [← List.append_assoc, List.replicate_append_replicate, show k + (o1.length - k) = o1.length by omega]
    rw [e, lay_at (A ++ [0]) (List.replicate k 0) (o1.take k) _ _ (by simp) (by simp; omega)]
    refine ⟨o1.take k ++ (List.replicate (o1.length - k) 0 ++ q), by simp, ?_⟩
    simp
    omega
  have hlay1f : lay S.vis (A.length + 1) o1 = (A ++ [0]) ++ (o1 ++ q) := by
    rw [hvis, lay_at (A ++ [0]) (List.replicate o1.length 0) o1 q _ (by simp) (by simp)]
  rcases wrsy_cases (n := n) (S := S) (o := A.length + 1) (s := o1) h.off h.pend (by omega) with ⟨hw1, hu1⟩ | hw1
  · rw [hw1]
    simp only [ne_eq, not_true_eq_false, if_false]
    rw [hlay1f]
    have hlay2 : lay ((A ++ [0]) ++ (o1 ++ q)) A.length [1] = cont H n (rs ++ l) := by
      unfold cont
      rw [happ, ← hq2]
      have := lay_at A [0] [1] (o1 ++ q) A.length rfl rfl
      rw [List.append_assoc, this, ho1]
      simp
    rcases wrsy_cases (n := n) (S := ⟨false, (used S.off S.left).2, (A ++ [0]) ++ (o1 ++ q), (A ++ [0]) ++ (o1 ++ q), []⟩) (o := A.length) (s := [1]) rfl rfl (by simp; omega) with ⟨hw2, hu2⟩ | hw2
    · rw [hw2]
      simp only [not_true_eq_false, if_false]
      refine .all _ ⟨hlay2, hlay2, rfl, rfl, ?_, hall⟩ ?_
      · rw [happ, List.length_append, ho1, List.length_cons]
        omega
      · intro h0
        show (used false (used S.off S.left).2).2 = 0
        rw [used_off h.off hu1 h0]
        rfl
    · rw [hw2]
      simp only
      rw [if_pos (by decide)]
      refine .lost _ rfl ?_ ?_
      · intro h0
        have e := wrsy_ok (n := n) (S := ⟨false, (used S.off S.left).2, (A ++ [0]) ++ (o1 ++ q), (A ++ [0]) ++ (o1 ++ q), []⟩) (o := A.length) (s := [1]) rfl (used_off h.off hu1 h0) rfl (by simp; omega)
        rw [e] at hw2
        simp at hw2
      · refine ⟨A.length, [1], rfl, by simp; omega, fun k hk => ?_⟩
        show Lies H n (lay ((A ++ [0]) ++ (o1 ++ q)) A.length (List.take k [1])) rs ∨ Lies H n (lay ((A ++ [0]) ++ (o1 ++ q)) A.length (List.take k [1])) (rs ++ l)
        rcases Nat.eq_zero_or_pos k with hk0 | hk0
        · left
          subst hk0
          rw [List.take_zero, lay_none]
          exact ⟨by simp; omega, h.lims, 0 :: (o1 ++ q), by rw [hA]; simp, .inr ⟨_, rfl⟩⟩
        · right
          obtain rfl : k = 1 := by
            simp at hk
            omega
          show Lies H n (lay ((A ++ [0]) ++ (o1 ++ q)) A.length [1]) (rs ++ l)
          rw [hlay2]
          exact Lies.of_cont H (by rw [happ, List.length_append, ho1, List.length_cons]; omega) hall
  · rw [hw1]
    simp only
    rw [if_pos (by decide)]
    refine .lost _ rfl ?_ ?_
    · intro h0
      have e := wrsy_ok (n := n) (S := S) (o := A.length + 1) (s := o1) h.off h0 h.pend (by omega)
      rw [e] at hw1
      simp at hw1
    · refine ⟨A.length + 1, o1, rfl, by omega, fun k hk => .inl ?_⟩
      obtain ⟨u, hu, hul⟩ := hlay1 k hk
      refine ⟨?_, h.lims, 0 :: u, ?_, .inr ⟨_, rfl⟩⟩
      · show (lay S.dur (A.length + 1) (o1.take k)).length = n
        rw [hu, List.length_append, List.length_cons]
        omega
      · show lay S.dur (A.length + 1) (o1.take k) = _
        rw [hu, hA]
end
end Go.Proofs.YtllbphanfahkkaaGreatDoor.RW

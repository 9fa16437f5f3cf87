/-
  Journals, plain: what Append and Open keep, whatever survives a power failure: no program in sight.
-/
import Derived.Test.YtllbphanfahkkaaGreatDoorMY3
import Derived.Test.YtllbphanfahkkaaGreatDoorMY4
namespace Go.Proofs.YtllbphanfahkkaaGreatDoor.RW
open Go Go.RowKit
theorem lay_mid (a b b' c : List UInt8) (h : b.length = b'.length) : lay (a ++ (b ++ c)) a.length b' = a ++ (b' ++ c) := by
  unfold lay Go.splice
  rw [List.take_left, ← List.drop_drop, List.drop_left, ← h, List.drop_left]
theorem lay_at (a b b' c : List UInt8) (o : Nat) (ho : o = a.length) (h : b.length = b'.length) : lay (a ++ (b ++ c)) o b' = a ++ (b' ++ c) := by
  subst ho
  exact lay_mid a b b' c h
theorem lay_none (l : List UInt8) (o : Nat) : lay l o [] = l := by simp [lay, Go.splice]
section
variable (H : List UInt8 → List UInt8)
/-- what lies on a disk of n bytes: the records, then zeros -/
def cont (n : Nat) (rs : List ByteArray) : List UInt8 := stos H z32 rs ++ List.replicate (n - (stos H z32 rs).length) 0
structure JInv (n : Nat) (S : Dk) (rs : List ByteArray) : Prop where
  vis : S.vis = cont H n rs
  dur : S.dur = cont H n rs
  pend : S.pend = []
  off : S.off = false
  fits : (stos H z32 rs).length ≤ n
  lims : ∀ r ∈ rs, r.size ≤ 65536
theorem cont_len {n : Nat} {rs : List ByteArray} (h : (stos H z32 rs).length ≤ n) : (cont H n rs).length = n := by
  unfold cont
  rw [List.length_append, List.length_replicate]
  omega
theorem zeros_head (k : Nat) : List.replicate k (0 : UInt8) = [] ∨ ∃ t, List.replicate k (0 : UInt8) = 0 :: t := by
  cases k with
  | zero => exact .inl rfl
  | succ k => exact .inr ⟨_, rfl⟩
theorem cont_load (hH : ∀ l, (H l).length = 32) {n : Nat} {rs : List ByteArray} (hs : ∀ r ∈ rs, r.size ≤ 65536) : ldL H z32 (cont H n rs) = some (rs, (stos H z32 rs).length) :=
  ldL_complete H hH rs z32 _ hs (zeros_head _)
theorem cont_drop (n : Nat) (rs : List ByteArray) : (cont H n rs).drop (stos H z32 rs).length = List.replicate (n - (stos H z32 rs).length) 0 := by
  unfold cont
  rw [List.drop_left]
/-- opening a disk that holds records and zeros changes nothing -/
theorem jopen_inv (hH : ∀ l, (H l).length = 32) {n : Nat} {S : Dk} {rs : List ByteArray} (h : JInv H n S rs) : jopen H n S = (0, some rs, S) := by
  unfold jopen
  rw [h.off, h.vis, cont_load H hH h.lims]
  simp only [Bool.false_eq_true, if_false, cont_drop]
  rw [if_pos (by simp)]
/-- a write and a sync on a disk with power, nothing pending -/
theorem wrsy_cases {n : Nat} {S : Dk} {o : Nat} {s : List UInt8} (hoff : S.off = false) (hp : S.pend = []) (hf : o + s.length ≤ n) :
    (wrsy n S o s = (0, ⟨false, (used S.off S.left).2, lay S.vis o s, lay S.vis o s, []⟩) ∧ (used S.off S.left).1 = false) ∨ wrsy n S o s = (221, ⟨true, (used S.off S.left).2, S.dur, lay S.vis o s, [(o, strOf s)]⟩) := by
  have hw : S.write n (o : Int) (strOf s) = (0, ⟨(used S.off S.left).1, (used S.off S.left).2, S.dur, lay S.vis o s, [(o, strOf s)]⟩) := by
    unfold Dk.write
    rw [if_neg (by rw [hoff]; simp), if_pos ((insB_iff n _ _).2 ⟨by omega, by omega, by omega, by rw [strOf_size]; omega⟩), hp, strOf_list, Int.toNat_natCast]
    rfl
  unfold wrsy
  rw [hw]
  simp only [ne_eq, not_true_eq_false, if_false]
  rcases hu : (used S.off S.left).1 with _ | _
  · left
    unfold Dk.sync
    simp
  · right
    unfold Dk.sync
    simp
theorem used_zero {off : Bool} : used off 0 = (off, 0) := rfl
/-- a write and a sync while no loss of power is scheduled -/
theorem wrsy_ok {n : Nat} {S : Dk} {o : Nat} {s : List UInt8} (hoff : S.off = false) (hl : S.left = 0) (hp : S.pend = []) (hf : o + s.length ≤ n) : wrsy n S o s = (0, ⟨false, 0, lay S.vis o s, lay S.vis o s, []⟩) := by
  rcases wrsy_cases (n := n) hoff hp hf with ⟨h, _⟩ | h
  · rw [h, hl]
    rfl
  · exfalso
    have hu : used S.off S.left = (false, 0) := by rw [hoff, hl]; rfl
    unfold wrsy at h
    have hw : S.write n (o : Int) (strOf s) = (0, ⟨false, 0, S.dur, lay S.vis o s, [(o, strOf s)]⟩) := by
      unfold Dk.write
      rw [if_neg (by rw [hoff]; simp), if_pos ((insB_iff n _ _).2 ⟨by omega, by omega, by omega, by rw [strOf_size]; omega⟩), hp, strOf_list, Int.toNat_natCast, hu]
      rfl
    rw [hw] at h
    simp [Dk.sync] at h
/-- what may lie on a disk after a crash: records, then a byte 0 or nothing -/
def Lies (n : Nat) (c : List UInt8) (rs : List ByteArray) : Prop := c.length = n ∧ (∀ r ∈ rs, r.size ≤ 65536) ∧ ∃ t, c = stos H z32 rs ++ t ∧ (t = [] ∨ ∃ u, t = 0 :: u)
theorem Lies.of_cont {n : Nat} {rs : List ByteArray} (h : (stos H z32 rs).length ≤ n) (hs : ∀ r ∈ rs, r.size ≤ 65536) : Lies H n (cont H n rs) rs := ⟨cont_len H h, hs, _, rfl, zeros_head _⟩
theorem Lies.load (hH : ∀ l, (H l).length = 32) {n : Nat} {c : List UInt8} {rs : List ByteArray} (h : Lies H n c rs) : ldL H z32 c = some (rs, (stos H z32 rs).length) := by
  obtain ⟨_, hs, t, rfl, ht⟩ := h
  exact ldL_complete H hH rs z32 t hs ht
theorem Lies.fits {n : Nat} {c : List UInt8} {rs : List ByteArray} (h : Lies H n c rs) : (stos H z32 rs).length ≤ n := by
  obtain ⟨h1, _, t, rfl, _⟩ := h
  rw [List.length_append] at h1
  omega
/-- opening after a crash -/
theorem jopen_lies (hH : ∀ l, (H l).length = 32) {n : Nat} {c : List UInt8} {rs : List ByteArray} (h : Lies H n c rs) : ∃ S', jopen H n ⟨false, 0, c, c, []⟩ = (0, some rs, S') ∧ JInv H n S' rs ∧ S'.left = 0 := by
  have hl := h.load H hH
  have hf := h.fits H
  obtain ⟨h1, h2, t, rfl, _⟩ := h
  unfold jopen
  simp only [Bool.false_eq_true, if_false, hl, List.drop_left]
  by_cases hz : t.all (fun b => decide (b = 0)) = true
  · rw [if_pos hz]
    have ht : t = List.replicate (n - (stos H z32 rs).length) 0 := by
      rw [List.length_append] at h1
      rw [List.eq_replicate_iff]
      refine ⟨by omega, fun b hb => ?_⟩
      simpa using List.all_eq_true.1 hz b hb
    refine ⟨_, rfl, ⟨?_, ?_, rfl, rfl, hf, h2⟩, rfl⟩
    · show _ = cont H n rs
      unfold cont
      rw [← ht]
    · show _ = cont H n rs
      unfold cont
      rw [← ht]
  · rw [if_neg hz]
    have hw := wrsy_ok (n := n) (S := ⟨false, 0, stos H z32 rs ++ t, stos H z32 rs ++ t, []⟩) (o := (stos H z32 rs).length) (s := List.replicate (n - (stos H z32 rs).length) 0) rfl rfl rfl (by rw [List.length_replicate]; omega)
    have hlay : lay (stos H z32 rs ++ t) (stos H z32 rs).length (List.replicate (n - (stos H z32 rs).length) 0) = cont H n rs := by
      rw [List.length_append] at h1
      have := lay_mid (stos H z32 rs) t (List.replicate (n - (stos H z32 rs).length) 0) [] (by rw [List.length_replicate]; omega)
      rw [List.append_nil, List.append_nil] at this
      exact this
    unfold wrsy at hw
    split at hw
    · rename_i hne
      rw [hw] at hne
      exact absurd rfl hne
    · rename_i hne
      rw [if_neg hne]
      simp only [hw, ne_eq, not_true_eq_false, if_false]
      exact ⟨_, rfl, ⟨hlay, hlay, rfl, rfl, hf, h2⟩, rfl⟩
/-- what an Append may leave: nothing has changed; all is there; or the power is lost, and after the crash there are the records before it, or all -/
inductive JOut (n : Nat) (S : Dk) (rs l : List ByteArray) : Int × List ByteArray × Bool × Dk → Prop
  | same (e : Int) (h : e = 230 ∨ e = 231) : JOut n S rs l (e, rs, false, S)
  | empty (h : l = []) : JOut n S rs l (0, rs, false, S)
  | all (S' : Dk) (h : JInv H n S' (rs ++ l)) (h0 : S.left = 0 → S'.left = 0) : JOut n S rs l (0, rs ++ l, false, S')
  | lost (S' : Dk) (hoff : S'.off = true) (h0 : S.left ≠ 0) (h : ∃ (o : Nat) (s : List UInt8), S'.pend = [(o, strOf s)] ∧ o + s.length ≤ n ∧ ∀ k, k ≤ s.length → (Lies H n (lay S'.dur o (s.take k)) rs ∨ Lies H n (lay S'.dur o (s.take k)) (rs ++ l))) : JOut n S rs l (221, rs, true, S')
theorem used_off {off : Bool} {left : Nat} (h : off = false) (hu : (used off left).1 = false) : left = 0 → (used off left).2 = 0 := by
  intro h0
  subst h0
  rfl
theorem japp_out (hH : ∀ l, (H l).length = 32) {n : Nat} {S : Dk} {rs : List ByteArray} (h : JInv H n S rs) (l : List ByteArray) : JOut H n S rs l (japp H n S rs false l) := by
  unfold japp
  by_cases hlong : l.any (fun r => decide (65536 < r.size)) = true
  · rw [if_pos (.inr hlong)]
    exact .same 230 (.inl rfl)
  rw [if_neg (by simp only [Bool.false_eq_true, false_or]; exact hlong)]
  have hl : ∀ r ∈ l, r.size ≤ 65536 := fun r hr => by
    have h1 : ¬ 65536 < r.size := fun e => hlong (List.any_eq_true.2 ⟨r, hr, decide_eq_true e⟩)
    omega
  have hall : ∀ r ∈ rs ++ l, r.size ≤ 65536 := fun r hr => (List.mem_append.1 hr).elim (h.lims r) (hl r)
  by_cases hfull : n - (stos H z32 rs).length < (stos H (hds H z32 rs) l).length
  · rw [if_pos hfull]
    exact .same 231 (.inr rfl)
  rw [if_neg hfull]
  by_cases hnil : l = []
  · rw [if_pos hnil]
    exact .empty hnil
  rw [if_neg hnil]
  have hf := h.fits
  obtain ⟨out, hout⟩ : ∃ o, o = stos H (hds H z32 rs) l := ⟨_, rfl⟩
  obtain ⟨A, hA⟩ : ∃ a, a = stos H z32 rs := ⟨_, rfl⟩
  have happ : stos H z32 (rs ++ l) = A ++ out := by rw [stos_app, hA, hout]
  obtain ⟨o1, ho1⟩ : ∃ t, out = 1 :: t := by
    rw [hout]
    cases l with
    | nil => exact absurd rfl hnil
    | cons r l => exact ⟨_, rfl⟩
  rw [← hout] at hfull ⊢
  rw [← hA] at hfull hf ⊢
  have hrest : ∃ q, List.replicate (n - A.length) (0 : UInt8) = 0 :: (List.replicate o1.length 0 ++ q) ∧ q = List.replicate (n - (A ++ out).length) 0 := by
    refine ⟨_, ?_, rfl⟩
    rw [ho1] at hfull ⊢
    rw [List.length_append, List.length_cons]
    rw [List.length_cons] at hfull
    rw [show n - A.length = (o1.length + (n - (A.length + (o1.length + 1)))) + 1 by omega, List.replicate_succ, ← List.replicate_append_replicate]
  obtain ⟨q, hq, hq2⟩ := hrest
  have hvis : S.vis = (A ++ [0]) ++ (List.replicate o1.length 0 ++ q) := by
    rw [h.vis]
    unfold cont
    rw [← hA, hq]
    simp
  have hdur : S.dur = (A ++ [0]) ++ (List.replicate o1.length 0 ++ q) := by
    rw [h.dur]
    unfold cont
    rw [← hA, hq]
    simp
  have hlen1 : A.length + 1 + o1.length + q.length = n := by
    have e := cont_len H h.fits
    rw [← h.vis, hvis] at e
    simp at e
    omega
  have hd1 : out.drop 1 = o1 := by rw [ho1]; rfl
  have ht1 : out.take 1 = [1] := by rw [ho1]; rfl
  rw [hd1, ht1]
  have hlay1 : ∀ k, k ≤ o1.length → ∃ u, lay S.dur (A.length + 1) (o1.take k) = A ++ 0 :: u ∧ u.length + A.length + 1 = n := fun k hk => by
    rw [hdur]
    have e : List.replicate o1.length (0 : UInt8) ++ q = List.replicate k 0 ++ (List.replicate (o1.length - k) 0 ++ q) := by
      rw [← List.append_assoc, List.replicate_append_replicate, show k + (o1.length - k) = o1.length by omega]
    rw [e, lay_at (A ++ [0]) (List.replicate k 0) (o1.take k) _ _ (by simp) (by simp; omega)]
    refine ⟨o1.take k ++ (List.replicate (o1.length - k) 0 ++ q), by simp, ?_⟩
    simp
    omega
  have hlay1f : lay S.vis (A.length + 1) o1 = (A ++ [0]) ++ (o1 ++ q) := by
    rw [hvis, lay_at (A ++ [0]) (List.replicate o1.length 0) o1 q _ (by simp) (by simp)]
  rcases wrsy_cases (n := n) (S := S) (o := A.length + 1) (s := o1) h.off h.pend (by omega) with ⟨hw1, hu1⟩ | hw1
  · rw [hw1]
    simp only [ne_eq, not_true_eq_false, if_false]
    rw [hlay1f]
    have hlay2 : lay ((A ++ [0]) ++ (o1 ++ q)) A.length [1] = cont H n (rs ++ l) := by
      unfold cont
      rw [happ, ← hq2]
      have := lay_at A [0] [1] (o1 ++ q) A.length rfl rfl
      rw [List.append_assoc, this, ho1]
      simp
    rcases wrsy_cases (n := n) (S := ⟨false, (used S.off S.left).2, (A ++ [0]) ++ (o1 ++ q), (A ++ [0]) ++ (o1 ++ q), []⟩) (o := A.length) (s := [1]) rfl rfl (by simp; omega) with ⟨hw2, hu2⟩ | hw2
    · rw [hw2]
      simp only [not_true_eq_false, if_false]
      refine .all _ ⟨hlay2, hlay2, rfl, rfl, ?_, hall⟩ ?_
      · rw [happ, List.length_append, ho1, List.length_cons]
        omega
      · intro h0
        show (used false (used S.off S.left).2).2 = 0
        rw [used_off h.off hu1 h0]
        rfl
    · rw [hw2]
      simp only
      rw [if_pos (by decide)]
      refine .lost _ rfl ?_ ?_
      · intro h0
        have e := wrsy_ok (n := n) (S := ⟨false, (used S.off S.left).2, (A ++ [0]) ++ (o1 ++ q), (A ++ [0]) ++ (o1 ++ q), []⟩) (o := A.length) (s := [1]) rfl (used_off h.off hu1 h0) rfl (by simp; omega)
        rw [e] at hw2
        simp at hw2
      · refine ⟨A.length, [1], rfl, by simp; omega, fun k hk => ?_⟩
        show Lies H n (lay ((A ++ [0]) ++ (o1 ++ q)) A.length (List.take k [1])) rs ∨ Lies H n (lay ((A ++ [0]) ++ (o1 ++ q)) A.length (List.take k [1])) (rs ++ l)
        rcases Nat.eq_zero_or_pos k with hk0 | hk0
        · left
          subst hk0
          rw [List.take_zero, lay_none]
          exact ⟨by simp; omega, h.lims, 0 :: (o1 ++ q), by rw [hA]; simp, .inr ⟨_, rfl⟩⟩
        · right
          obtain rfl : k = 1 := by
            simp at hk
            omega
          show Lies H n (lay ((A ++ [0]) ++ (o1 ++ q)) A.length [1]) (rs ++ l)
          rw [hlay2]
          exact Lies.of_cont H (by rw [happ, List.length_append, ho1, List.length_cons]; omega) hall
  · rw [hw1]
    simp only
    rw [if_pos (by decide)]
    refine .lost _ rfl ?_ ?_
    · intro h0
      have e := wrsy_ok (n := n) (S := S) (o := A.length + 1) (s := o1) h.off h0 h.pend (by omega)
      rw [e] at hw1
      simp at hw1
    · refine ⟨A.length + 1, o1, rfl, by omega, fun k hk => .inl ?_⟩
      obtain ⟨u, hu, hul⟩ := hlay1 k hk
      refine ⟨?_, h.lims, 0 :: u, ?_, .inr ⟨_, rfl⟩⟩
      · show (lay S.dur (A.length + 1) (o1.take k)).length = n
        rw [hu, List.length_append, List.length_cons]
        omega
      · show lay S.dur (A.length + 1) (o1.take k) = _
        rw [hu, hA]
end
end Go.Proofs.YtllbphanfahkkaaGreatDoor.RW

/-
  Package journal: first of the calls that write a string and make it durable: what it returns, what it leaves of the disk.
-/
namespace Go.Proofs.YtllbphanfahkkaaGreatDoor
open Go.RowKit RG
namespace RW
theorem wrsy_pend {n : Nat} {S : Dk} {o : Nat} {s : List UInt8} (h : (wrsy n S o s).1 = 0) : (wrsy n S o s).2.pend = [] := by
  unfold wrsy at h ⊢
  split at h
  · rename_i h1
    exact absurd h h1
  · rename_i h1
    rw [if_neg h1]
    unfold Dk.sync at h ⊢
    split at h
    · exact absurd h (by show ¬ ((221 : Int) = 0); decide)
    · rename_i h2
      rw [if_neg h2]
theorem wrsy_yes {n : Nat} {S : Dk} {o : Nat} {s : List UInt8} (h : (S.write n (o : Int) (strOf s)).1 = 0) : wrsy n S o s = (S.write n (o : Int) (strOf s)).2.sync := by
  unfold wrsy
  rw [if_neg (by rw [h]; simp)]
theorem wrsy_no {n : Nat} {S : Dk} {o : Nat} {s : List UInt8} (h : (S.write n (o : Int) (strOf s)).1 ≠ 0) : wrsy n S o s = S.write n (o : Int) (strOf s) := by
  unfold wrsy
  rw [if_pos h]
theorem write_pend {n : Nat} {S : Dk} {o : Int} {s : ByteArray} : (S.write n o s).2.pend.length ≤ S.pend.length + 1 := by
  unfold Dk.write
  split
  · exact Nat.le_succ _
  · split
    · simp
    · exact Nat.le_succ _
end RW
/-- the closure of writing, the bound method Sync -/
def wcl (p : Nat) : Value := .func (.func 90) #[] #[.pointer (some ⟨p, 0, none⟩), .pointer (some ⟨p + 1, 0, none⟩), .pointer (some ⟨p + 2, 0, none⟩)]
def scl (b : Nat) : Value := .func (.func 47) #[.pointer (some ⟨b, 0, none⟩)] #[]
theorem cf_w1 : ∀ args w, (callFunc 90 args).run Tryz.prog w = .ok (.enter 90 args) w := fun args w => by go_simp
theorem cf_sync : ∀ args w, (callFunc 47 args).run Tryz.prog w = .ok (.enter 47 args) w := fun args w => by go_simp
section
variable {H : List UInt8 → List UInt8} {B b n db vb jb : Nat} {rv : Value} {rs : List ByteArray} {br : Bool} {Fr : World → Prop}
theorem step_w (hFr : ∀ W W' pv S1, DiskAt W B b n db vb pv S1 → Fr W → Tch b db vb W W' → Below B W W' → Fr W') {p o : Nat} {z : List UInt8} (hJ : ∀ W, Fr W → JrAt H W B jb b rv rs br ∧ WrC W p jb (o : Int) (RW.strOf z)) {S : RW.Dk} (hp : S.pend.length < 1000000) (hz : z.length ≤ 4194304) {W : World} {pv : Value} (hd : DiskAt W B b n db vb pv S) (h : Fr W) :
    Calls Tryz.prog 90 (#[] ++ #[.pointer (some ⟨p, 0, none⟩), .pointer (some ⟨p + 1, 0, none⟩), .pointer (some ⟨p + 2, 0, none⟩)]) W fun e W' => e = .returned (.int .i64 (S.write n (o : Int) (RW.strOf z)).1) ∧ ∃ pv', DiskAt W' B b n db vb pv' (S.write n (o : Int) (RW.strOf z)).2 ∧ Fr W' := by
  obtain ⟨h1, h2⟩ := hJ W h
  refine (writing1_any B b n db vb p jb pv rv S rs br (o : Int) (RW.strOf z) W hd h1 h2 hp (by rw [RW.strOf_size]; omega)).mono ?_
  rintro e W' ⟨he, pv', g1, g2, g3⟩
  exact ⟨he, pv', g1, hFr W W' pv S hd h g2 g3⟩
theorem step_s (hFr : ∀ W W' pv S1, DiskAt W B b n db vb pv S1 → Fr W → Tch b db vb W W' → Below B W W' → Fr W') {S : RW.Dk} {W : World} {pv : Value} (hd : DiskAt W B b n db vb pv S) (h : Fr W) :
    Calls Tryz.prog 47 (#[.pointer (some ⟨b, 0, none⟩)] ++ #[]) W fun e W' => e = .returned (.int .i64 S.sync.1) ∧ ∃ pv', DiskAt W' B b n db vb pv' S.sync.2 ∧ Fr W' := by
  refine (sync_any B b n db vb pv S W hd).mono ?_
  rintro e W' ⟨he, pv', g1, g2, g3⟩
  exact ⟨he, pv', g1, hFr W W' pv S hd h g2 g3⟩
/-- one string, made durable -/
theorem first2 (hFr : ∀ W W' pv S1, DiskAt W B b n db vb pv S1 → Fr W → Tch b db vb W W' → Below B W W' → Fr W') {p o g : Nat} {z : List UInt8} (hJ : ∀ W, Fr W → JrAt H W B jb b rv rs br ∧ WrC W p jb (o : Int) (RW.strOf z)) (hg : ∀ W, Fr W → W.heap[g]? = some (.cells #[wcl p, scl b] 96 (0, 0))) {S : RW.Dk} (hp : S.pend.length < 900000) (hz : z.length ≤ 4194304) {w : World} {pv : Value} (hd : DiskAt w B b n db vb pv S) (h : Fr w) :
    Calls Tryz.prog 45 #[.slice (some ⟨g, 0, none⟩) 2 2] w fun e w' => e = .returned (.int .i64 (RW.wrsy n S o z).1) ∧ ∃ pv', DiskAt w' B b n db vb pv' (RW.wrsy n S o z).2 ∧ Fr w' := by
  have hI : ∃ I : Nat → World → Prop, I = fun j W => Fr W ∧ ((j = 0 ∧ ∃ pv', DiskAt W B b n db vb pv' S) ∨ (j = 1 ∧ (S.write n (o : Int) (RW.strOf z)).1 = 0 ∧ ∃ pv', DiskAt W B b n db vb pv' (S.write n (o : Int) (RW.strOf z)).2) ∨ (j = 2 ∧ (RW.wrsy n S o z).1 = 0 ∧ ∃ pv', DiskAt W B b n db vb pv' (RW.wrsy n S o z).2)) := ⟨_, rfl⟩
  obtain ⟨I, hI⟩ := hI
  refine (first_any [wcl p, scl b] (by show 2 ≤ 100; decide) g I (fun e W => Fr W ∧ e = (RW.wrsy n S o z).1 ∧ ∃ pv', DiskAt W B b n db vb pv' (RW.wrsy n S o z).2) (fun j W hi => hg W (by rw [hI] at hi; exact hi.1)) ?_ w (by rw [hI]; exact ⟨h, .inl ⟨rfl, pv, hd⟩⟩)).mono ?_
  · intro j f hf
    rcases j with _ | _ | j
    · cases hf
      refine ⟨_, _, _, rfl, cf_w1, fun W hi => ?_⟩
      rw [hI] at hi
      obtain ⟨hi1, hi2⟩ := hi
      obtain ⟨pv1, hd1⟩ : ∃ pv', DiskAt W B b n db vb pv' S := by
        rcases hi2 with ⟨_, h1⟩ | ⟨h1, _⟩ | ⟨h1, _⟩
        · exact h1
        · cases h1
        · cases h1
      refine (step_w hFr hJ (by omega) hz hd1 hi1).mono ?_
      rintro e W' ⟨rfl, pv', g1, g2⟩
      refine ⟨_, rfl, ?_⟩
      by_cases h0 : (S.write n (o : Int) (RW.strOf z)).1 = 0
      · exact .inr ⟨h0, by rw [hI]; exact ⟨g2, .inr (.inl ⟨rfl, h0, pv', g1⟩)⟩⟩
      · exact .inl ⟨h0, g2, by rw [RW.wrsy_no h0], pv', by rw [RW.wrsy_no h0]; exact g1⟩
    · cases hf
      refine ⟨_, _, _, rfl, cf_sync, fun W hi => ?_⟩
      rw [hI] at hi
      obtain ⟨hi1, hi2⟩ := hi
      obtain ⟨h0, pv1, hd1⟩ : (S.write n (o : Int) (RW.strOf z)).1 = 0 ∧ ∃ pv', DiskAt W B b n db vb pv' (S.write n (o : Int) (RW.strOf z)).2 := by
        rcases hi2 with ⟨h1, _⟩ | ⟨_, h1⟩ | ⟨h1, _⟩
        · cases h1
        · exact h1
        · cases h1
      refine (step_s hFr hd1 hi1).mono ?_
      rintro e W' ⟨rfl, pv', g1, g2⟩
      refine ⟨_, rfl, ?_⟩
      rw [← RW.wrsy_yes h0] at g1 ⊢
      by_cases h2 : (RW.wrsy n S o z).1 = 0
      · exact .inr ⟨h2, by rw [hI]; exact ⟨g2, .inr (.inr ⟨rfl, h2, pv', g1⟩)⟩⟩
      · exact .inl ⟨h2, g2, rfl, pv', g1⟩
    · simp at hf
  · rintro e w' (⟨m, rfl, _, h2, h3, h4⟩ | ⟨rfl, hi⟩)
    · exact ⟨by rw [h3], h4.elim fun q hq => ⟨q, hq, h2⟩⟩
    · rw [hI] at hi
      obtain ⟨hi1, hi2⟩ := hi
      rcases hi2 with ⟨h1, _⟩ | ⟨h1, _⟩ | ⟨_, h1, pv', h2⟩
      · cases h1
      · cases h1
      · exact ⟨by rw [h1], pv', h2, hi1⟩
/-- a string, then another one -/
theorem first4 (hFr : ∀ W W' pv S1, DiskAt W B b n db vb pv S1 → Fr W → Tch b db vb W W' → Below B W W' → Fr W') {p o p2 o2 g : Nat} {z z2 : List UInt8} (hJ : ∀ W, Fr W → JrAt H W B jb b rv rs br ∧ WrC W p jb (o : Int) (RW.strOf z)) (hJ2 : ∀ W, Fr W → JrAt H W B jb b rv rs br ∧ WrC W p2 jb (o2 : Int) (RW.strOf z2)) (hg : ∀ W, Fr W → W.heap[g]? = some (.cells #[wcl p, scl b, wcl p2, scl b] 96 (0, 0))) {S : RW.Dk} (hp : S.pend.length < 900000) (hz : z.length ≤ 4194304) (hz2 : z2.length ≤ 4194304) {w : World} {pv : Value} (hd : DiskAt w B b n db vb pv S) (h : Fr w) :
    Calls Tryz.prog 45 #[.slice (some ⟨g, 0, none⟩) 4 4] w fun e w' => ∃ R : Int × RW.Dk, R = (if (RW.wrsy n S o z).1 ≠ 0 then RW.wrsy n S o z else RW.wrsy n (RW.wrsy n S o z).2 o2 z2) ∧ e = .returned (.int .i64 R.1) ∧ ∃ pv', DiskAt w' B b n db vb pv' R.2 ∧ Fr w' := by
  obtain ⟨R, hR⟩ : ∃ R : Int × RW.Dk, R = (if (RW.wrsy n S o z).1 ≠ 0 then RW.wrsy n S o z else RW.wrsy n (RW.wrsy n S o z).2 o2 z2) := ⟨_, rfl⟩
  obtain ⟨S2, hS2⟩ : ∃ S2, S2 = (RW.wrsy n S o z).2 := ⟨_, rfl⟩
  have hRn : (RW.wrsy n S o z).1 ≠ 0 → R = RW.wrsy n S o z := fun h => by rw [hR, if_pos h]
  have hRy : (RW.wrsy n S o z).1 = 0 → R = RW.wrsy n S2 o2 z2 := fun h => by rw [hR, if_neg (by rw [h]; simp), hS2]
  have hI : ∃ I : Nat → World → Prop, I = fun j W => Fr W ∧ ((j = 0 ∧ ∃ pv', DiskAt W B b n db vb pv' S) ∨ (j = 1 ∧ (S.write n (o : Int) (RW.strOf z)).1 = 0 ∧ ∃ pv', DiskAt W B b n db vb pv' (S.write n (o : Int) (RW.strOf z)).2) ∨ (j = 2 ∧ (RW.wrsy n S o z).1 = 0 ∧ ∃ pv', DiskAt W B b n db vb pv' S2) ∨
      (j = 3 ∧ (RW.wrsy n S o z).1 = 0 ∧ (S2.write n (o2 : Int) (RW.strOf z2)).1 = 0 ∧ ∃ pv', DiskAt W B b n db vb pv' (S2.write n (o2 : Int) (RW.strOf z2)).2) ∨ (j = 4 ∧ R.1 = 0 ∧ ∃ pv', DiskAt W B b n db vb pv' R.2)) := ⟨_, rfl⟩
  obtain ⟨I, hI⟩ := hI
  refine (first_any [wcl p, scl b, wcl p2, scl b] (by show 4 ≤ 100; decide) g I (fun e W => Fr W ∧ e = R.1 ∧ ∃ pv', DiskAt W B b n db vb pv' R.2) (fun j W hi => hg W (by rw [hI] at hi; exact hi.1)) ?_ w (by rw [hI]; exact ⟨h, .inl ⟨rfl, pv, hd⟩⟩)).mono ?_
  · intro j f hf
    rcases j with _ | _ | _ | _ | j
    · cases hf
      refine ⟨_, _, _, rfl, cf_w1, fun W hi => ?_⟩
      rw [hI] at hi
      obtain ⟨hi1, hi2⟩ := hi
      obtain ⟨pv1, hd1⟩ : ∃ pv', DiskAt W B b n db vb pv' S := by
        rcases hi2 with ⟨_, h1⟩ | ⟨h1, _⟩ | ⟨h1, _⟩ | ⟨h1, _⟩ | ⟨h1, _⟩
        · exact h1
        all_goals cases h1
      refine (step_w hFr hJ (by omega) hz hd1 hi1).mono ?_
      rintro e W' ⟨rfl, pv', g1, g2⟩
      refine ⟨_, rfl, ?_⟩
      by_cases h0 : (S.write n (o : Int) (RW.strOf z)).1 = 0
      · exact .inr ⟨h0, by rw [hI]; exact ⟨g2, .inr (.inl ⟨rfl, h0, pv', g1⟩)⟩⟩
      · have h3 : (RW.wrsy n S o z).1 ≠ 0 := by rw [RW.wrsy_no h0]; exact h0
        exact .inl ⟨h0, g2, by rw [hRn h3, RW.wrsy_no h0], pv', by rw [hRn h3, RW.wrsy_no h0]; exact g1⟩
    · cases hf
      refine ⟨_, _, _, rfl, cf_sync, fun W hi => ?_⟩
      rw [hI] at hi
      obtain ⟨hi1, hi2⟩ := hi
      obtain ⟨h0, pv1, hd1⟩ : (S.write n (o : Int) (RW.strOf z)).1 = 0 ∧ ∃ pv', DiskAt W B b n db vb pv' (S.write n (o : Int) (RW.strOf z)).2 := by
        rcases hi2 with ⟨h1, _⟩ | ⟨_, h1⟩ | ⟨h1, _⟩ | ⟨h1, _⟩ | ⟨h1, _⟩
        · cases h1
        · exact h1
        all_goals cases h1
      refine (step_s hFr hd1 hi1).mono ?_
      rintro e W' ⟨rfl, pv', g1, g2⟩
      refine ⟨_, rfl, ?_⟩
      rw [← RW.wrsy_yes h0] at g1 ⊢
      by_cases h2 : (RW.wrsy n S o z).1 = 0
      · exact .inr ⟨h2, by rw [hI]; exact ⟨g2, .inr (.inr (.inl ⟨rfl, h2, pv', by rw [hS2]; exact g1⟩))⟩⟩
      · exact .inl ⟨h2, g2, by rw [hRn h2], pv', by rw [hRn h2]; exact g1⟩
    · cases hf
      refine ⟨_, _, _, rfl, cf_w1, fun W hi => ?_⟩
      rw [hI] at hi
      obtain ⟨hi1, hi2⟩ := hi
      obtain ⟨h0, pv1, hd1⟩ : (RW.wrsy n S o z).1 = 0 ∧ ∃ pv', DiskAt W B b n db vb pv' S2 := by
        rcases hi2 with ⟨h1, _⟩ | ⟨h1, _⟩ | ⟨_, h1⟩ | ⟨h1, _⟩ | ⟨h1, _⟩
        · cases h1
        · cases h1
        · exact h1
        all_goals cases h1
      refine (step_w hFr hJ2 (by rw [hS2, RW.wrsy_pend h0]; decide) hz2 hd1 hi1).mono ?_
      rintro e W' ⟨rfl, pv', g1, g2⟩
      refine ⟨_, rfl, ?_⟩
      by_cases h2 : (S2.write n (o2 : Int) (RW.strOf z2)).1 = 0
      · exact .inr ⟨h2, by rw [hI]; exact ⟨g2, .inr (.inr (.inr (.inl ⟨rfl, h0, h2, pv', g1⟩)))⟩⟩
      · exact .inl ⟨h2, g2, by rw [hRy h0, RW.wrsy_no h2], pv', by rw [hRy h0, RW.wrsy_no h2]; exact g1⟩
    · cases hf
      refine ⟨_, _, _, rfl, cf_sync, fun W hi => ?_⟩
      rw [hI] at hi
      obtain ⟨hi1, hi2⟩ := hi
      obtain ⟨h0, h2, pv1, hd1⟩ : (RW.wrsy n S o z).1 = 0 ∧ (S2.write n (o2 : Int) (RW.strOf z2)).1 = 0 ∧ ∃ pv', DiskAt W B b n db vb pv' (S2.write n (o2 : Int) (RW.strOf z2)).2 := by
        rcases hi2 with ⟨h1, _⟩ | ⟨h1, _⟩ | ⟨h1, _⟩ | ⟨_, h1⟩ | ⟨h1, _⟩
        · cases h1
        · cases h1
        · cases h1
        · exact h1
        · cases h1
      refine (step_s hFr hd1 hi1).mono ?_
      rintro e W' ⟨rfl, pv', g1, g2⟩
      refine ⟨_, rfl, ?_⟩
      rw [← RW.wrsy_yes h2] at g1 ⊢
      by_cases h3 : (RW.wrsy n S2 o2 z2).1 = 0
      · exact .inr ⟨h3, by rw [hI]; exact ⟨g2, .inr (.inr (.inr (.inr ⟨rfl, by rw [hRy h0]; exact h3, pv', by rw [hRy h0]; exact g1⟩)))⟩⟩
      · exact .inl ⟨h3, g2, by rw [hRy h0], pv', by rw [hRy h0]; exact g1⟩
    · simp at hf
  · rintro e w' (⟨m, rfl, _, h2, h3, h4⟩ | ⟨rfl, hi⟩)
    · exact ⟨R, hR, by rw [h3], h4.elim fun q hq => ⟨q, hq, h2⟩⟩
    · rw [hI] at hi
      obtain ⟨hi1, hi2⟩ := hi
      rcases hi2 with ⟨h1, _⟩ | ⟨h1, _⟩ | ⟨h1, _⟩ | ⟨h1, _⟩ | ⟨_, h1, pv', h2⟩
      · cases h1
      · cases h1
      · cases h1
      · cases h1
      · exact ⟨R, hR, by rw [h1], pv', h2, hi1⟩
end
end Go.Proofs.YtllbphanfahkkaaGreatDoor

/-
  Package journal: Open: what it returns, what it leaves of the disk.
-/
namespace Go.Proofs.YtllbphanfahkkaaGreatDoor
open Go.RowKit RG
namespace RW
theorem drop_all {l : List UInt8} (h : l.all (fun b => decide (b = 0)) = true) : ∀ (j : Nat) b, l[j]? = some b → b = 0 := fun j b hb => by
  simpa using List.all_eq_true.1 h b (List.mem_of_getElem? hb)
theorem trim_zeros {l : List UInt8} (h : l.all (fun b => decide (b = 0)) = true) : Lib.trimB l 0 = [] := by
  unfold Lib.trimB
  rw [Lib.trimRightB_take l 0 0 (Nat.zero_le _) (fun j b _ hb => drop_all h j b hb) (fun b h0 _ => absurd h0 (Nat.lt_irrefl 0)), List.take_zero]
  rfl
theorem last_nz : ∀ (l : List UInt8), l.all (fun b => decide (b = 0)) = false → ∃ k b, k < l.length ∧ l[k]? = some b ∧ b ≠ 0 ∧ ∀ j c, k < j → l[j]? = some c → c = 0 := by
  intro l
  induction l with
  | nil => intro h; simp at h
  | cons x t ih =>
    intro h
    by_cases ht : t.all (fun b => decide (b = 0)) = true
    · refine ⟨0, x, by simp, rfl, ?_, ?_⟩
      · rintro rfl
        rw [List.all_cons, ht] at h
        simp at h
      · intro j c hj hc
        rcases j with _ | j
        · omega
        · exact drop_all ht j c hc
    · obtain ⟨k, b, h1, h2, h3, h4⟩ := ih (by simpa using ht)
      refine ⟨k + 1, b, by simpa using h1, h2, h3, ?_⟩
      intro j c hj hc
      rcases j with _ | j
      · omega
      · exact h4 j c (by omega) hc
theorem first_nz : ∀ (l : List UInt8) (k : Nat) (b : UInt8), l[k]? = some b → b ≠ 0 → Lib.trimLeftB l 0 ≠ [] := by
  intro l
  induction l with
  | nil => intro k b h; simp at h
  | cons x t ih =>
    intro k b h hb
    by_cases hx : x = 0
    · rcases k with _ | k
      · simp at h
        exact absurd (h ▸ hx) hb
      · have e : Lib.trimLeftB (x :: t) 0 = Lib.trimLeftB t 0 := by
          unfold Lib.trimLeftB
          rw [List.dropWhile_cons_of_pos (by simp [hx])]
        rw [e]
        exact ih k b h hb
    · have e : Lib.trimLeftB (x :: t) 0 = x :: t := by
        unfold Lib.trimLeftB
        rw [List.dropWhile_cons_of_neg (by simp [hx])]
      rw [e]
      simp
theorem trim_some {l : List UInt8} (h : l.all (fun b => decide (b = 0)) = false) : Lib.trimB l 0 ≠ [] := by
  obtain ⟨k, b, h1, h2, h3, h4⟩ := last_nz l h
  unfold Lib.trimB
  rw [Lib.trimRightB_take l 0 (k + 1) (by omega) (fun j c hj hc => h4 j c (by omega) hc) (fun c _ hc => by
    rw [Nat.add_sub_cancel, h2] at hc
    cases hc
    exact h3)]
  exact first_nz _ k b (by rw [List.getElem?_take, if_pos (by omega)]; exact h2) h3
theorem emp_yes0 (s : ByteArray) (h : s = ⟨#[]⟩) : s.toList.isEmpty = true := by rw [h, ByteArray.toList_eq]; rfl
theorem emp_no0 (s : ByteArray) (h : s.data.toList ≠ []) : s.toList.isEmpty = false := by
  rw [ByteArray.toList_eq]
  cases hl : s.data.toList with
  | nil => exact absurd hl h
  | cons a l => rfl
end RW
theorem jopen_wr {H : List UInt8 → List UInt8} {n k left : Nat} {dur vis : List UInt8} {pend : List (Nat × ByteArray)} {rs : List ByteArray} (hL : RW.ldL H RW.z32 vis = some (rs, k)) (hz : (vis.drop k).all (fun b => decide (b = 0)) = false) :
    RW.jopen H n ⟨false, left, dur, vis, pend⟩ = if (RW.wrsy n ⟨false, left, dur, vis, pend⟩ k (List.replicate (n - k) 0)).1 ≠ 0 then ((RW.wrsy n ⟨false, left, dur, vis, pend⟩ k (List.replicate (n - k) 0)).1, none, (RW.wrsy n ⟨false, left, dur, vis, pend⟩ k (List.replicate (n - k) 0)).2) else (0, some rs, (RW.wrsy n ⟨false, left, dur, vis, pend⟩ k (List.replicate (n - k) 0)).2) := by
  unfold RW.jopen
  simp only [Bool.false_eq_true, if_false, hL, hz]
  by_cases h1 : (RW.Dk.write ⟨false, left, dur, vis, pend⟩ n (k : Int) (RW.strOf (List.replicate (n - k) 0))).1 = 0
  · rw [if_neg (by rw [h1]; simp), RW.wrsy_yes h1]
  · rw [if_pos h1, RW.wrsy_no h1, if_pos h1]
theorem Open_nil (w : World) : Calls Tryz.prog 26 #[.pointer none] w fun e w' => e = .returned (.tuple #[.pointer none, .int .i64 1]) ∧ w = w' := by
  go_enter Tryz.func26, Tryz.ntmps26
  go_wp2
  go_ret2
  exact ⟨rfl, rfl⟩
/-- what Open leaves -/
def OpenOut (H : List UInt8 → List UInt8) (B b n db vb : Nat) (S : RW.Dk) (w : World) (e : Ending) (w' : World) : Prop :=
  (∃ pv', DiskAt w' B b n db vb pv' (RW.jopen H n S).2.2) ∧ Tch b db vb w w' ∧ Below B w w' ∧
    (((RW.jopen H n S).2.1 = none ∧ (RW.jopen H n S).1 ≠ 0 ∧ e = .returned (.tuple #[.pointer none, .int .i64 (RW.jopen H n S).1])) ∨
      ∃ rs jb rv, (RW.jopen H n S).1 = 0 ∧ (RW.jopen H n S).2.1 = some rs ∧ (∃ k, RW.ldL H RW.z32 S.vis = some (rs, k)) ∧ e = .returned (.tuple #[.pointer (some ⟨jb, 0, none⟩), .int .i64 0]) ∧ JrAt H w' w.heap.size jb b rv rs false)
section
variable {ev : Operand → Value} {o : Oper} {x y : Operand} {w : World}
theorem op_lens {s : ByteArray} (ho : o.op = .call { callee := .builtin .len, args := #[x], argTypes := #[9] }) (hx : ev x = .string s) : (execOp ev o).run Tryz.prog w = .ok (.value (.int .i64 s.size)) w := by
  unfold execOp
  rw [ho]
  go_simp
theorem op_mfs {p : Option Addr} (ho : o.op = .makeFunc (.func 47) #[x] #[]) (hx : ev x = .pointer p) : (execOp ev o).run Tryz.prog w = .ok (.value (.func (.func 47) #[.pointer p] #[])) w := by
  unfold execOp
  rw [ho]
  go_simp
theorem op_bf2 {p : Nat} {b : Nat} (ho : o.op = .buildSlice 164 2 #[(0, x), (1, y)]) (hx : ev x = wcl p) (hy : ev y = scl b) : (execOp ev o).run Tryz.prog w = .ok (.value (.slice (some ⟨w.heap.size, 0, none⟩) 2 2)) (w.alloc (.cells #[wcl p, scl b] 96)) := by
  unfold wcl at hx
  unfold scl at hy
  unfold wcl scl execOp
  rw [ho]
  go_simp
end
theorem cf_writing : ∀ args w, (callFunc 46 args).run Tryz.prog w = .ok (.enter 46 args) w := fun args w => by go_simp
theorem cf_first : ∀ args w, (callFunc 45 args).run Tryz.prog w = .ok (.enter 45 args) w := fun args w => by go_simp
set_option maxRecDepth 100000 in
set_option maxHeartbeats 8000000 in
theorem Open_any (B b n db vb : Nat) (pv : Value) (S : RW.Dk) (a : Addr) (K : Nat → Int) (ks : Array Value) (hks : RW.WsOk ks K) (w : World) (hD : DiskAt w B b n db vb pv S) (hp : S.pend.length < 900000) (hK : KLaid w ks) (hg : w.cell? ⟨1, 0, none⟩ = some (RW.jeW a)) :
    Calls Tryz.prog 26 #[.pointer (some ⟨b, 0, none⟩)] w (OpenOut (RW.sha K) B b n db vb S w) := by
  have hDH := hide hD
  have hRd := hide (read_any B b n db vb pv S 0 (n : Int) w hD)
  have hSz := hide (size_any w hD)
  have hBs := hide (show B ≤ w.heap.size from Nat.le_trans hD.hb (Nat.le_of_lt hD.lt.1))
  obtain ⟨off, left, dur, vis, pend⟩ := S
  have hn := hD.hn
  have hlv : vis.length = n := hD.lv
  cases off
  case true =>
    rw [show (RW.Dk.read ⟨true, left, dur, vis, pend⟩ n 0 (n : Int)) = (⟨#[]⟩, 221) from rfl] at hRd
    clear hD hn hlv hp hg hK
    go_enter Tryz.func26, Tryz.ntmps26
    go_wp2_with (first
      | (go_at_call 56; refine hSz.out.mono ?_; rintro e w' ⟨rfl, rfl⟩)
      | (go_at_call 57; refine hRd.out.mono ?_; rintro e w' ⟨rfl, rfl⟩))
    go_ret2
    exact ⟨⟨pv, hDH.out⟩, Tch.refl _ _ _ _, Below.refl _ _, .inl ⟨rfl, by show (221 : Int) ≠ 0; decide, rfl⟩⟩
  case false =>
    obtain ⟨V, hV⟩ : ∃ V : ByteArray, V = RW.strOf vis := ⟨_, rfl⟩
    have hVl : V.data.toList = vis := by rw [hV, RW.strOf_list]
    have hVs : V.size = n := by rw [hV, RW.strOf_size, hlv]
    rw [show (RW.Dk.read ⟨false, left, dur, vis, pend⟩ n 0 (n : Int)) = (V, 0) by
      unfold RW.Dk.read
      rw [if_neg (by simp), if_pos ((RW.insB_iff n _ _).2 ⟨by omega, by omega, by omega, by omega⟩)]
      rw [show (0 : Int).toNat = 0 from rfl, List.drop_zero, Int.toNat_natCast, ← hlv, List.take_length, hV]] at hRd
    have hOp := hide (open_any b V (by omega) a K ks hks w hK hg)
    rw [hVl] at hOp
    have hnx := hide (fun W (hW : Below w.heap.size w W) => (show DiskAt W B b n db vb pv ⟨false, left, dur, vis, pend⟩ ∧ Tch b db vb w W ∧ Below B w W from ⟨hDH.out.next hW, Tch.of_below hW, hW.mono hBs.out⟩))
    have hlvH := hide hlv
    have hVlH := hide hVl
    have hVsH := hide hVs
    clear hV hVl hlv hD
    rcases hL : RW.ldL (RW.sha K) RW.z32 vis with _ | ⟨rs, k⟩
    · have hJ := hide (show RW.jopen (RW.sha K) n ⟨false, left, dur, vis, pend⟩ = (232, none, ⟨false, left, dur, vis, pend⟩) by
        unfold RW.jopen
        simp only [Bool.false_eq_true, if_false, hL])
      have hO2 := hide (hOp.out.mono (fun e w' hh => (show Below w.heap.size w w' ∧ e = .returned (.tuple #[.pointer none, .int .i64 232]) from by
        obtain ⟨h1, ⟨_, h2⟩ | ⟨qs, m, jb, rv, h2, _⟩⟩ := hh
        · exact ⟨h1, h2⟩
        · rw [hL] at h2; cases h2)))
      clear hOp hL hg hK hp
      go_enter Tryz.func26, Tryz.ntmps26
      go_wp2_with (first
        | (go_at_call 56; refine hSz.out.mono ?_; rintro e w' ⟨rfl, rfl⟩)
        | (go_at_call 57; refine hRd.out.mono ?_; rintro e w' ⟨rfl, rfl⟩)
        | (go_at_call 59; refine hO2.out.mono ?_; rintro e w2 ⟨hB2, rfl⟩; have hB2H := hide hB2; clear hB2))
      go_ret2
      obtain ⟨q1, q2, q3⟩ := hnx.out _ hB2H.out
      refine ⟨⟨pv, by rw [hJ.out]; exact q1⟩, q2, q3, .inl ⟨by rw [hJ.out], by rw [hJ.out]; show (232 : Int) ≠ 0; decide, by rw [hJ.out] <;> rfl⟩⟩
    · obtain ⟨_, hkn, hkl, _, _⟩ := RW.ldL_sound' (RW.sha K) (RW.sha_len K) hL
      rw [hlvH.out] at hkn
      have hO2 := hide (hOp.out.mono (fun e w' hh => (show ∃ jb rv, Below w.heap.size w w' ∧ e = .returned (.tuple #[.pointer (some ⟨jb, 0, none⟩), .int .i64 0]) ∧ JrAt (RW.sha K) w' w.heap.size jb b rv rs false from by
        obtain ⟨h1, ⟨h2, _⟩ | ⟨qs, m, jb, rv, h2, h3, h4⟩⟩ := hh
        · rw [hL] at h2; cases h2
        · rw [hL] at h2
          cases h2
          exact ⟨jb, rv, h1, h3, h4⟩)))
      have hTr := hide (fun W => SH.strings_Trim_one (V.extract k n) 0 (by decide) W (by rw [ByteArray.size_extract]; omega))
      have hXl : (V.extract k n).data.toList = vis.drop k := by
        rw [RW.extract_eq V k n (by omega), hVlH.out, ← hlvH.out, ← List.length_drop, List.take_length]
      rw [hXl] at hTr
      have hk0 : (0 : Int) ≤ (k : Int) := by omega
      have hk1 : (k : Int) ≤ (n : Int) := by omega
      have hklH := hide hkl
      have hLH := hide hL
      clear hOp hL hg hK hXl hkl
      obtain ⟨Z, hZ⟩ : ∃ Z : ByteArray, Z = ⟨(Lib.trimB (vis.drop k) 0).toArray⟩ := ⟨_, rfl⟩
      rw [← hZ] at hTr
      cases hz : (vis.drop k).all (fun b => decide (b = 0))
      case true =>
        have hJ := hide (show RW.jopen (RW.sha K) n ⟨false, left, dur, vis, pend⟩ = (0, some rs, ⟨false, left, dur, vis, pend⟩) by
          unfold RW.jopen
          simp only [Bool.false_eq_true, if_false, hLH.out, hz, if_true])
        have hZ0 : Z = ⟨#[]⟩ := by rw [hZ, RW.trim_zeros hz]
        subst hZ0
        clear hz hZ hp
        go_enter Tryz.func26, Tryz.ntmps26
        go_upto_region 9 with (first
          | (go_at_call 56; refine hSz.out.mono ?_; rintro e w' ⟨rfl, rfl⟩)
          | (go_at_call 57; refine hRd.out.mono ?_; rintro e w' ⟨rfl, rfl⟩)
          | (go_at_call 59; refine hO2.out.mono ?_; rintro e w2 ⟨jb, rv, hB2, rfl, hJ2⟩; have hB2H := hide hB2; have hJr := hide hJ2; clear hB2 hJ2))
        have c2 : w2.cell? ⟨jb, 2, none⟩ = some (.int .i64 (k : Int)) := by rw [← hklH.out]; exact cell_of hJr.out.b (tpc2 _ _ _ _)
        go_wp2_with (go_at_call 60; refine (hTr.out _).mono ?_; rintro e w3 ⟨rfl, hw3⟩; have h3H := hide (show Below w2.heap.size w2 w3 by rcases hw3 with rfl | rfl; exact Below.refl _ _; exact (Below.refl _ _).drew); clear hw3)
        go_ret2
        have hB3 := hB2H.out.trans (h3H.out.mono hB2H.out.size)
        obtain ⟨q1, q2, q3⟩ := hnx.out _ hB3
        refine ⟨⟨pv, by rw [hJ.out]; exact q1⟩, q2, q3, .inr ⟨rs, jb, rv, by rw [hJ.out], by rw [hJ.out], ⟨k, hLH.out⟩, rfl, hJr.out.next h3H.out⟩⟩
      case false =>
        have hZe : Z.toList.isEmpty = false := RW.emp_no0 Z (by rw [hZ]; exact RW.trim_some hz)
        have hJw := hide (jopen_wr (n := n) (left := left) (dur := dur) (pend := pend) hLH.out hz)
        obtain ⟨q, hq⟩ : ∃ q : Nat, q = n - k := ⟨_, rfl⟩
        have hqi : (n : Int) - (k : Int) = (q : Int) := by omega
        have hqiH := hide hqi
        have hq4 := hide (show q ≤ 4194304 by omega)
        rw [← hq] at hJw
        obtain ⟨E, hE⟩ : ∃ E, E = RW.wrsy n ⟨false, left, dur, vis, pend⟩ k (List.replicate q 0) := ⟨_, rfl⟩
        rw [← hE] at hJw
        have hEH := hide hE
        have hpH := hide hp
        clear hZ hz hq hE hp hqi
        go_enter Tryz.func26, Tryz.ntmps26
        go_upto_region 9 with (first
          | (go_at_call 56; refine hSz.out.mono ?_; rintro e w' ⟨rfl, rfl⟩)
          | (go_at_call 57; refine hRd.out.mono ?_; rintro e w' ⟨rfl, rfl⟩)
          | (go_at_call 59; refine hO2.out.mono ?_; rintro e w2 ⟨jb, rv, hB2, rfl, hJ2⟩; have hB2H := hide hB2; have hJr := hide hJ2; clear hB2 hJ2))
        have c2 : w2.cell? ⟨jb, 2, none⟩ = some (.int .i64 (k : Int)) := by rw [← hklH.out]; exact cell_of hJr.out.b (tpc2 _ _ _ _)
        go_upto_region 10 with (go_at_call 60; refine (hTr.out _).mono ?_; rintro e w3 ⟨rfl, hw3⟩; have h3H := hide (show Below w2.heap.size w2 w3 by rcases hw3 with rfl | rfl; exact Below.refl _ _; exact (Below.refl _ _).drew); clear hw3)
        clear c2
        have hB3 := hide (hB2H.out.trans (h3H.out.mono hB2H.out.size))
        have hD3 := hide ((hnx.out _ hB3.out).1)
        have hT3 := hide ((hnx.out _ hB3.out).2)
        have hJ3 := hide (hJr.out.next h3H.out)
        have c3W := hide (fun W (hW : Below w3.heap.size w3 W) => (show W.cell? ⟨jb, 2, none⟩ = some (.int .i64 (k : Int)) from by rw [← hklH.out]; exact cell_of (hJ3.out.next hW).b (tpc2 _ _ _ _)))
        clear hJr h3H hB2H hTr
        refine wp_region_k (fun h W => 20 ∈ h ∨ Below w3.heap.size w3 W) (fun _ => True) [14, 15, 16, 19, 20] (.op 0 (.op 1 (.op 2 (.op 3 (.op 4 (.op 5 (.op 6 (.op 7 (.op 8 (.op 9 (.op 10 (.op 11 (.op 12 (.op 13 (.op 17 (.op 18 (.op 14 (.op 15 (.op 16 (.op 19 (.op 20 (.op 21 .nil)))))))))))))))))))))) (by kernel_rfl) (by kernel_rfl) (by rfl) (by kernel_rfl) (.inr (Below.refl w3.heap.size w3).drew) trivial ?_
        refine k_val (.pointer (some ⟨jb, 0, none⟩)) (by apply opN; repeat' (first | apply OpAt.z | apply OpAt.s)) (by rfl) (by rfl) (fun _ W hS => op_mv rfl rfl) ?_
        simp only [Act.put, List.setIfInBounds_toArray, List.set_cons_zero, List.set_cons_succ]
        refine k_val (.pointer (some ⟨jb, 0, none⟩)) (by apply opN; repeat' (first | apply OpAt.z | apply OpAt.s)) (by rfl) (by rfl) (fun _ W hS => op_mv rfl rfl) ?_
        simp only [Act.put, List.setIfInBounds_toArray, List.set_cons_zero, List.set_cons_succ]
        refine k_val (.pointer (some ⟨jb, 0, none⟩)) (by apply opN; repeat' (first | apply OpAt.z | apply OpAt.s)) (by rfl) (by rfl) (fun _ W hS => op_nc rfl rfl) ?_
        simp only [Act.put, List.setIfInBounds_toArray, List.set_cons_zero, List.set_cons_succ]
        refine k_val (.pointer (some ⟨jb, 0, none⟩)) (by apply opN; repeat' (first | apply OpAt.z | apply OpAt.s)) (by rfl) (by rfl) (fun _ W hS => op_fa rfl rfl (fa_jt W)) ?_
        simp only [Act.put, List.setIfInBounds_toArray, List.set_cons_zero, List.set_cons_succ]
        refine k_val (.pointer (some ⟨jb, 2, none⟩)) (by apply opN; repeat' (first | apply OpAt.z | apply OpAt.s)) (by rfl) (by rfl) (fun _ W hS => op_fa rfl rfl (fa_tp2 W)) ?_
        simp only [Act.put, List.setIfInBounds_toArray, List.set_cons_zero, List.set_cons_succ]
        refine k_bef 20 (.int .i64 (k : Int)) (by apply opN; repeat' (first | apply OpAt.z | apply OpAt.s)) (by rfl) (by rfl) (by decide +kernel) (by rfl) (fun _ W hg hS => op_ld rfl rfl (jint_ld (c3W.out W (hS.resolve_left hg)))) ?_
        simp only [Act.put, List.setIfInBounds_toArray, List.set_cons_zero, List.set_cons_succ]
        refine k_val (.string V) (by apply opN; repeat' (first | apply OpAt.z | apply OpAt.s)) (by rfl) (by rfl) (fun _ W hS => op_mv rfl rfl) ?_
        simp only [Act.put, List.setIfInBounds_toArray, List.set_cons_zero, List.set_cons_succ]
        refine k_val (.int .i64 (n : Int)) (by apply opN; repeat' (first | apply OpAt.z | apply OpAt.s)) (by rfl) (by rfl) (fun _ W hS => (op_lens rfl rfl).trans (by rw [hVsH.out])) ?_
        simp only [Act.put, List.setIfInBounds_toArray, List.set_cons_zero, List.set_cons_succ]
        refine k_val (.pointer (some ⟨jb, 0, none⟩)) (by apply opN; repeat' (first | apply OpAt.z | apply OpAt.s)) (by rfl) (by rfl) (fun _ W hS => op_mv rfl rfl) ?_
        simp only [Act.put, List.setIfInBounds_toArray, List.set_cons_zero, List.set_cons_succ]
        refine k_val (.pointer (some ⟨jb, 0, none⟩)) (by apply opN; repeat' (first | apply OpAt.z | apply OpAt.s)) (by rfl) (by rfl) (fun _ W hS => op_nc rfl rfl) ?_
        simp only [Act.put, List.setIfInBounds_toArray, List.set_cons_zero, List.set_cons_succ]
        refine k_val (.pointer (some ⟨jb, 0, none⟩)) (by apply opN; repeat' (first | apply OpAt.z | apply OpAt.s)) (by rfl) (by rfl) (fun _ W hS => op_fa rfl rfl (fa_jt W)) ?_
        simp only [Act.put, List.setIfInBounds_toArray, List.set_cons_zero, List.set_cons_succ]
        refine k_val (.pointer (some ⟨jb, 2, none⟩)) (by apply opN; repeat' (first | apply OpAt.z | apply OpAt.s)) (by rfl) (by rfl) (fun _ W hS => op_fa rfl rfl (fa_tp2 W)) ?_
        simp only [Act.put, List.setIfInBounds_toArray, List.set_cons_zero, List.set_cons_succ]
        refine k_bef 20 (.int .i64 (k : Int)) (by apply opN; repeat' (first | apply OpAt.z | apply OpAt.s)) (by rfl) (by rfl) (by decide +kernel) (by rfl) (fun _ W hg hS => op_ld rfl rfl (jint_ld (c3W.out W (hS.resolve_left hg)))) ?_
        simp only [Act.put, List.setIfInBounds_toArray, List.set_cons_zero, List.set_cons_succ]
        refine k_val (.int .i64 (q : Int)) (by apply opN; repeat' (first | apply OpAt.z | apply OpAt.s)) (by rfl) (by rfl) (fun _ W hS => op_subj rfl rfl rfl hqiH.out (by have := hq4.out; omega)) ?_
        simp only [Act.put, List.setIfInBounds_toArray, List.set_cons_zero, List.set_cons_succ]
        refine k_val (.pointer (some ⟨b, 0, none⟩)) (by apply opN; repeat' (first | apply OpAt.z | apply OpAt.s)) (by rfl) (by rfl) (fun _ W hS => op_mv rfl rfl) ?_
        simp only [Act.put, List.setIfInBounds_toArray, List.set_cons_zero, List.set_cons_succ]
        refine k_val (scl b) (by apply opN; repeat' (first | apply OpAt.z | apply OpAt.s)) (by rfl) (by rfl) (fun _ W hS => op_mfs rfl rfl) ?_
        simp only [Act.put, List.setIfInBounds_toArray, List.set_cons_zero, List.set_cons_succ]
        refine k_step (fun K' u => ∃ g, u = .slice (some ⟨g, 0, none⟩) q q ∧ K' = fun W => W.heap[g]? = some (.cells (RW.byl (List.replicate q 0)).toArray 5 (0, 0))) (by apply opN; repeat' (first | apply OpAt.z | apply OpAt.s)) (by rfl) (by rfl) (by rfl) (fun W hCW hK => ?_) ?_
        · exact xup_val (op_make hq4.out rfl rfl rfl) ⟨.inr (alloc_bel (hCW.resolve_left (by decide)) (Nat.le_refl _) _), _, alloc_at1 W _, W.heap.size, rfl, rfl⟩
        rintro _ _ ⟨g, rfl, rfl⟩
        simp only [Act.put, List.setIfInBounds_toArray, List.set_cons_zero, List.set_cons_succ]
        refine k_step (fun K' u => u = .string (RW.strOf (List.replicate q 0)) ∧ K' = fun _ => True) (by apply opN; repeat' (first | apply OpAt.z | apply OpAt.s)) (by rfl) (by rfl) (by rfl) (fun W hCW hK => ?_) ?_
        · exact xup_val (op_cv rfl rfl hK (by simp)) ⟨.inr (hCW.resolve_left (by decide)), _, trivial, rfl, rfl⟩
        rintro _ _ ⟨rfl, rfl⟩
        simp only [Act.put, List.setIfInBounds_toArray, List.set_cons_zero, List.set_cons_succ]
        refine k_step (fun K' u => ∃ p, u = wcl p ∧ K' = fun W => WrC W p jb (k : Int) (RW.strOf (List.replicate q 0))) (by apply opN; repeat' (first | apply OpAt.z | apply OpAt.s)) (by rfl) (by rfl) (by rfl) (fun W hCW hK => ?_) ?_
        · refine op_x3 rfl rfl rfl rfl rfl cf_writing ?_
          refine (writing_any jb (k : Int) (RW.strOf (List.replicate q 0)) W).mono ?_
          rintro e W' ⟨rfl, rfl⟩
          obtain ⟨h4, h5⟩ := WrC.new W jb (k : Int) (RW.strOf (List.replicate q 0))
          exact ⟨_, rfl, .inr ((hCW.resolve_left (by decide)).trans (h5.mono (hCW.resolve_left (by decide)).size)), _, h4, W.heap.size, rfl, rfl⟩
        rintro _ _ ⟨p, rfl, rfl⟩
        simp only [Act.put, List.setIfInBounds_toArray, List.set_cons_zero, List.set_cons_succ]
        refine k_step (fun K' u => ∃ g2, u = .slice (some ⟨g2, 0, none⟩) 2 2 ∧ K' = fun W => WrC W p jb (k : Int) (RW.strOf (List.replicate q 0)) ∧ W.heap[g2]? = some (.cells #[wcl p, scl b] 96 (0, 0))) (by apply opN; repeat' (first | apply OpAt.z | apply OpAt.s)) (by rfl) (by rfl) (by rfl) (fun W hCW hK => ?_) ?_
        · exact xup_val (op_bf2 rfl rfl rfl) ⟨.inr (alloc_bel (hCW.resolve_left (by decide)) (Nat.le_refl _) _), _, ⟨hK.next (alloc_bel (Below.refl _ _) (Nat.le_refl _) _), alloc_at1 W _⟩, W.heap.size, rfl, rfl⟩
        rintro _ _ ⟨g2, rfl, rfl⟩
        simp only [Act.put, List.setIfInBounds_toArray, List.set_cons_zero, List.set_cons_succ]
        refine k_step (fun K' u => u = .int .i64 E.1 ∧ K' = fun W => ∃ pv', DiskAt W B b n db vb pv' E.2 ∧ JrAt (RW.sha K) W w.heap.size jb b rv rs false ∧ WrC W p jb (k : Int) (RW.strOf (List.replicate q 0)) ∧ W.heap[g2]? = some (.cells #[wcl p, scl b] 96 (0, 0)) ∧ Tch b db vb w3 W ∧ Below B w3 W) (by apply opN; repeat' (first | apply OpAt.z | apply OpAt.s)) (by rfl) (by rfl) (by rfl) (fun W hCW hK => ?_) ?_
        · have hb9 := hCW.resolve_left (by decide)
          have h0 : (fun W => JrAt (RW.sha K) W w.heap.size jb b rv rs false ∧ WrC W p jb (k : Int) (RW.strOf (List.replicate q 0)) ∧ W.heap[g2]? = some (.cells #[wcl p, scl b] 96 (0, 0)) ∧ Tch b db vb w3 W ∧ Below B w3 W) W := ⟨hJ3.out.next hb9, hK.1, hK.2, Tch.of_below hb9, hb9.mono (Nat.le_trans hBs.out hB3.out.size)⟩
          refine op_x1 rfl rfl rfl cf_first ?_
          refine (first2 (H := RW.sha K) (rv := rv) (rs := rs) (br := false) (Fr := fun W => JrAt (RW.sha K) W w.heap.size jb b rv rs false ∧ WrC W p jb (k : Int) (RW.strOf (List.replicate q 0)) ∧ W.heap[g2]? = some (.cells #[wcl p, scl b] 96 (0, 0)) ∧ Tch b db vb w3 W ∧ Below B w3 W) (fun W1 W2 pv1 S1 hd1 hf1 ht1 hbb1 => ⟨hf1.1.tch hd1 ht1, hf1.2.1.tch hd1 ht1, tch_keep hf1.2.2.1 hd1 ht1 (by decide), hf1.2.2.2.1.trans ht1, hf1.2.2.2.2.trans hbb1⟩) (fun W1 hf1 => ⟨hf1.1.mono hBs.out, hf1.2.1⟩) (fun W1 hf1 => hf1.2.2.1) hpH.out (by rw [List.length_replicate]; exact hq4.out) (hD3.out.next hb9) h0).mono ?_
          rintro e W' ⟨rfl, h4⟩
          rw [← hEH.out] at h4 ⊢
          exact ⟨_, rfl, .inl (by decide), _, h4, rfl, rfl⟩
        rintro _ _ ⟨rfl, rfl⟩
        simp only [Act.put, List.setIfInBounds_toArray, List.set_cons_zero, List.set_cons_succ]
        refine k_val (.int .i64 E.1) (by apply opN; repeat' (first | apply OpAt.z | apply OpAt.s)) (by rfl) (by rfl) (fun _ W hS => op_asg rfl rfl) ?_
        simp only [Act.put, List.setIfInBounds_toArray, List.set_cons_zero, List.set_cons_succ]
        refine k_nil ?_
        intro W hCW hK
        obtain ⟨pv', hD9, hJ9, _, _, hT9, hB9⟩ := hK
        have hD9H := hide hD9
        have hJ9H := hide hJ9
        have hT9H := hide (hT3.out.1.trans hT9)
        have hB9H := hide (hT3.out.2.trans hB9)
        clear hCW hD9 hJ9 hT9 hB9 hD3 hT3 hJ3 c3W
        obtain ⟨E1, E2⟩ := E
        by_cases hE0 : E1 = 0
        · subst hE0
          have hJ := hide (show RW.jopen (RW.sha K) n ⟨false, left, dur, vis, pend⟩ = (0, some rs, E2) by rw [hJw.out, if_neg (by simp)])
          clear hJw hEH
          go_wp2
          go_ret2
          exact ⟨⟨pv', by rw [hJ.out]; exact hD9H.out⟩, hT9H.out, hB9H.out, .inr ⟨rs, jb, rv, by rw [hJ.out], by rw [hJ.out], ⟨k, hLH.out⟩, rfl, hJ9H.out⟩⟩
        · have hJ := hide (show RW.jopen (RW.sha K) n ⟨false, left, dur, vis, pend⟩ = (E1, none, E2) by rw [hJw.out, if_pos hE0])
          have hne : (E1 != 0) = true := by simp [hE0]
          have hE0H := hide hE0
          clear hJw hEH hE0
          go_wp2
          go_ret2
          exact ⟨⟨pv', by rw [hJ.out]; exact hD9H.out⟩, hT9H.out, hB9H.out, .inl ⟨by rw [hJ.out], by rw [hJ.out]; exact hE0H.out, by rw [hJ.out] <;> rfl⟩⟩
end Go.Proofs.YtllbphanfahkkaaGreatDoor

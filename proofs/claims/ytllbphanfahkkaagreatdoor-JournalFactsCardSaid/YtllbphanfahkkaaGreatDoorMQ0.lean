/-
  Journals, plain: what Append and Open keep, whatever survives a power failure: no program in sight.
-/
import Derived.Test.YtllbphanfahkkaaGreatDoorMY3
import Derived.Test.YtllbphanfahkkaaGreatDoorMY4
import Derived.Shelf.Strings.Builder1
import Derived.Test.YtllbphanfahkkaaGreatDoorMA
import Derived.Test.YtllbphanfahkkaaGreatDoorProg
namespace Go.Proofs.YtllbphanfahkkaaGreatDoor.RW
open Go Go.RowKit
theorem lay_mid (a b b' c : List UInt8) (h : b.length = b'.length) : lay (a ++ (b ++ c)) a.length b' = a ++ (b' ++ c) := by
  unfold lay Go.splice
  rw [List.take_left, ← List.drop_drop, List.drop_left, ← h, List.drop_left]
theorem lay_at (a b b' c : List UInt8) (o : Nat) (ho : o = a.length) (h : b.length = b'.length) : lay (a ++ (b ++ c)) o b' = a ++ (b' ++ c) := by
  subst ho
  exact lay_mid a b b' c h
theorem lay_none (l : List UInt8) (o : Nat) : lay l o [] = l := by simp [lay, Go.splice]
section
variable (H : List UInt8 → List UInt8)
/-- what lies on a disk of n bytes: the records, then zeros -/
def cont (n : Nat) (rs : List ByteArray) : List UInt8 := stos H z32 rs ++ List.replicate (n - (stos H z32 rs).length) 0
structure JInv (n : Nat) (S : Dk) (rs : List ByteArray) : Prop where
  vis : S.vis = cont H n rs
  dur : S.dur = cont H n rs
  pend : S.pend = []
  off : S.off = false
  fits : (stos H z32 rs).length ≤ n
  lims : ∀ r ∈ rs, r.size ≤ 65536
theorem cont_len {n : Nat} {rs : List ByteArray} (h : (stos H z32 rs).length ≤ n) : (cont H n rs).length = n := by
  unfold cont
  rw [List.length_append, List.length_replicate]
  omega
theorem zeros_head (k : Nat) : List.replicate k (0 : UInt8) = [] ∨ ∃ t, List.replicate k (0 : UInt8) = 0 :: t := by
  cases k with
  | zero => exact .inl rfl
  | succ k => exact .inr ⟨_, rfl⟩
theorem cont_load (hH : ∀ l, (H l).length = 32) {n : Nat} {rs : List ByteArray} (hs : ∀ r ∈ rs, r.size ≤ 65536) : ldL H z32 (cont H n rs) = some (rs, (stos H z32 rs).length) :=
  ldL_complete H hH rs z32 _ hs (zeros_head _)
theorem cont_drop (n : Nat) (rs : List ByteArray) : (cont H n rs).drop (stos H z32 rs).length = List.replicate (n - (stos H z32 rs).length) 0 := by
  unfold cont
  rw [List.drop_left]
/-- opening a disk that holds records and zeros changes nothing -/
theorem jopen_inv (hH : ∀ l, (H l).length = 32) {n : Nat} {S : Dk} {rs : List ByteArray} (h : JInv H n S rs) : jopen H n S = (0, some rs, S) := by
  unfold jopen
  rw [h.off, h.vis, cont_load H hH h.lims]
  simp only [Bool.false_eq_true, if_false, cont_drop]
  rw [if_pos (by simp)]
/-- a write and a sync on a disk with power, nothing pending -/
theorem wrsy_cases {n : Nat} {S : Dk} {o : Nat} {s : List UInt8} (hoff : S.off = false) (hp : S.pend = []) (hf : o + s.length ≤ n) :
    (wrsy n S o s = (0, ⟨false, (used S.off S.left).2, lay S.vis o s, lay S.vis o s, []⟩) ∧ (used S.off S.left).1 = false) ∨ wrsy n S o s = (221, ⟨true, (used S.off S.left).2, S.dur, lay S.vis o s, [(o, strOf s)]⟩) := by
  have hw : S.write n (o : Int) (strOf s) = (0, ⟨(used S.off S.left).1, (used S.off S.left).2, S.dur, lay S.vis o s, [(o, strOf s)]⟩) := by
    unfold Dk.write
    rw [if_neg (by rw [hoff]; simp), if_pos ((insB_iff n _ _).2 ⟨by omega, by omega, by omega, by rw [strOf_size]; omega⟩), hp, strOf_list, Int.toNat_natCast]
    rfl
  unfold wrsy
  rw [hw]
  simp only [ne_eq, not_true_eq_false, if_false]
  rcases hu : (used S.off S.left).1 with _ | _
  · left
    unfold Dk.sync
    simp
  · right
    unfold Dk.sync
    simp
theorem used_zero {off : Bool} : used off 0 = (off, 0) := rfl
/-- a write and a sync while no loss of power is scheduled -/
theorem wrsy_ok {n : Nat} {S : Dk} {o : Nat} {s : List UInt8} (hoff : S.off = false) (hl : S.left = 0) (hp : S.pend = []) (hf : o + s.length ≤ n) : wrsy n S o s = (0, ⟨false, 0, lay S.vis o s, lay S.vis o s, []⟩) := by
  rcases wrsy_cases (n := n) hoff hp hf with ⟨h, _⟩ | h
  · rw [h, hl]
    rfl
  · exfalso
    have hu : used S.off S.left = (false, 0) := by rw [hoff, hl]; rfl
    unfold wrsy at h
    have hw : S.write n (o : Int) (strOf s) = (0, ⟨false, 0, S.dur, lay S.vis o s, [(o, strOf s)]⟩) := by
      unfold Dk.write
      rw [if_neg (by rw [hoff]; simp), if_pos ((insB_iff n _ _).2 ⟨by omega, by omega, by omega, by rw [strOf_size]; omega⟩), hp, strOf_list, Int.toNat_natCast, hu]
      rfl
    rw [hw] at h
    simp [Dk.sync] at h
/-- what may lie on a disk after a crash: records, then a byte 0 or nothing -/
def Lies (n : Nat) (c : List UInt8) (rs : List ByteArray) : Prop := c.length = n ∧ (∀ r ∈ rs, r.size ≤ 65536) ∧ ∃ t, c = stos H z32 rs ++ t ∧ (t = [] ∨ ∃ u, t = 0 :: u)
theorem Lies.of_cont {n : Nat} {rs : List ByteArray} (h : (stos H z32 rs).length ≤ n) (hs : ∀ r ∈ rs, r.size ≤ 65536) : Lies H n (cont H n rs) rs := ⟨cont_len H h, hs, _, rfl, zeros_head _⟩
theorem Lies.load (hH : ∀ l, (H l).length = 32) {n : Nat} {c : List UInt8} {rs : List ByteArray} (h : Lies H n c rs) : ldL H z32 c = some (rs, (stos H z32 rs).length) := by
  obtain ⟨_, hs, t, rfl, ht⟩ := h
  exact ldL_complete H hH rs z32 t hs ht
theorem Lies.fits {n : Nat} {c : List UInt8} {rs : List ByteArray} (h : Lies H n c rs) : (stos H z32 rs).length ≤ n := by
  obtain ⟨h1, _, t, rfl, _⟩ := h
  rw [List.length_append] at h1
  omega
/-- opening after a crash -/
theorem jopen_lies (hH : ∀ l, (H l).length = 32) {n : Nat} {c : List UInt8} {rs : List ByteArray} (h : Lies H n c rs) : ∃ S', jopen H n ⟨false, 0, c, c, []⟩ = (0, some rs, S') ∧ JInv H n S' rs ∧ S'.left = 0 := by
  have hl := h.load H hH
  have hf := h.fits H
  obtain ⟨h1, h2, t, rfl, _⟩ := h
  unfold jopen
  simp only [Bool.false_eq_true, if_false, hl, List.drop_left]
  by_cases hz : t.all (fun b => decide (b = 0)) = true
  · rw [if_pos hz]
    have ht : t = List.replicate (n - (stos H z32 rs).length) 0 := by
      rw [List.length_append] at h1
      rw [List.eq_replicate_iff]
      refine ⟨by omega, fun b hb => ?_⟩
      simpa using List.all_eq_true.1 hz b hb
    refine ⟨_, rfl, ⟨?_, ?_, rfl, rfl, hf, h2⟩, rfl⟩
    · show _ = cont H n rs
      unfold cont
      rw [← ht]
    · show _ = cont H n rs
      unfold cont
      rw [← ht]
  · rw [if_neg hz]
    have hw := wrsy_ok (n := n) (S := ⟨false, 0, stos H z32 rs ++ t, stos H z32 rs ++ t, []⟩) (o := (stos H z32 rs).length) (s := List.replicate (n - (stos H z32 rs).length) 0) rfl rfl rfl (by rw [List.length_replicate]; omega)
    have hlay : lay (stos H z32 rs ++ t) (stos H z32 rs).length (List.replicate (n - (stos H z32 rs).length) 0) = cont H n rs := by
      rw [List.length_append] at h1
      have := lay_mid (stos H z32 rs) t (List.replicate (n - (stos H z32 rs).length) 0) [] (by rw [List.length_replicate]; omega)
      rw [List.append_nil, List.append_nil] at this
      exact this
    unfold wrsy at hw
    split at hw
    · rename_i hne
      rw [hw] at hne
      exact absurd rfl hne
    · rename_i hne
      rw [if_neg hne]
      simp only [hw, ne_eq, not_true_eq_false, if_false]
      exact ⟨_, rfl, ⟨hlay, hlay, rfl, rfl, hf, h2⟩, rfl⟩
/-- what an Append may leave: nothing has changed; all is there; or the power is lost, and after the crash there are the records before it, or all -/
inductive JOut (n : Nat) (S : Dk) (rs l : List ByteArray) : Int × List ByteArray × Bool × Dk → Prop
  | same (e : Int) (h : e = 230 ∨ e = 231) : JOut n S rs l (e, rs, false, S)
  | empty (h : l = []) : JOut n S rs l (0, rs, false, S)
  | all (S' : Dk) (h : JInv H n S' (rs ++ l)) (h0 : S.left = 0 → S'.left = 0) : JOut n S rs l (0, rs ++ l, false, S')
  | lost (S' : Dk) (hoff : S'.off = true) (h0 : S.left ≠ 0) (h : ∃ (o : Nat) (s : List UInt8), S'.pend = [(o, strOf s)] ∧ o + s.length ≤ n ∧ ∀ k, k ≤ s.length → (Lies H n (lay S'.dur o (s.take k)) rs ∨ Lies H n (lay S'.dur o (s.take k)) (rs ++ l))) : JOut n S rs l (221, rs, true, S')
theorem used_off {off : Bool} {left : Nat} (h : off = false) (hu : (used off left).1 = false) : left = 0 → (used off left).2 = 0 := by
  intro h0
  subst h0
  rfl
theorem japp_out (hH : ∀ l, (H l).length = 32) {n : Nat} {S : Dk} {rs : List ByteArray} (h : JInv H n S rs) (l : List ByteArray) : JOut H n S rs l (japp H n S rs false l) := by
  unfold japp
  by_cases hlong : l.any (fun r => decide (65536 < r.size)) = true
  · rw [if_pos (.inr hlong)]
    exact .same 230 (.inl rfl)
  rw [if_neg (by simp only [Bool.false_eq_true, false_or]; exact hlong)]
  have hl : ∀ r ∈ l, r.size ≤ 65536 := fun r hr => by
    have h1 : ¬ 65536 < r.size := fun e => hlong (List.any_eq_true.2 ⟨r, hr, decide_eq_true e⟩)
    omega
  have hall : ∀ r ∈ rs ++ l, r.size ≤ 65536 := fun r hr => (List.mem_append.1 hr).elim (h.lims r) (hl r)
  by_cases hfull : n - (stos H z32 rs).length < (stos H (hds H z32 rs) l).length
  · rw [if_pos hfull]
    exact .same 231 (.inr rfl)
  rw [if_neg hfull]
  by_cases hnil : l = []
  · rw [if_pos hnil]
    exact .empty hnil
  rw [if_neg hnil]
  have hf := h.fits
  obtain ⟨out, hout⟩ : ∃ o, o = stos H (hds H z32 rs) l := ⟨_, rfl⟩
  obtain ⟨A, hA⟩ : ∃ a, a = stos H z32 rs := ⟨_, rfl⟩
  have happ : stos H z32 (rs ++ l) = A ++ out := by rw [stos_app, hA, hout]
  obtain ⟨o1, ho1⟩ : ∃ t, out = 1 :: t := by
    rw [hout]
    cases l with
    | nil => exact absurd rfl hnil
    | cons r l => exact ⟨_, rfl⟩
  rw [← hout] at hfull ⊢
  rw [← hA] at hfull hf ⊢
  have hrest : ∃ q, List.replicate (n - A.length) (0 : UInt8) = 0 :: (List.replicate o1.length 0 ++ q) ∧ q = List.replicate (n - (A ++ out).length) 0 := by
    refine ⟨_, ?_, rfl⟩
    rw [ho1] at hfull ⊢
    rw [List.length_append, List.length_cons]
    rw [List.length_cons] at hfull
    rw [show n - A.length = (o1.length + (n - (A.length + (o1.length + 1)))) + 1 by omega, List.replicate_succ, ← List.replicate_append_replicate]
  obtain ⟨q, hq, hq2⟩ := hrest
  have hvis : S.vis = (A ++ [0]) ++ (List.replicate o1.length 0 ++ q) := by
    rw [h.vis]
    unfold cont
    rw [← hA, hq]
    simp
  have hdur : S.dur = (A ++ [0]) ++ (List.replicate o1.length 0 ++ q) := by
    rw [h.dur]
    unfold cont
    rw [← hA, hq]
    simp
  have hlen1 : A.length + 1 + o1.length + q.length = n := by
    have e := cont_len H h.fits
    rw [← h.vis, hvis] at e
    simp at e
    omega
  have hd1 : out.drop 1 = o1 := by rw [ho1]; rfl
  have ht1 : out.take 1 = [1] := by rw [ho1]; rfl
  rw [hd1, ht1]
  have hlay1 : ∀ k, k ≤ o1.length → ∃ u, lay S.dur (A.length + 1) (o1.take k) = A ++ 0 :: u ∧ u.length + A.length + 1 = n := fun k hk => by
    rw [hdur]
    have e : List.replicate o1.length (0 : UInt8) ++ q = List.replicate k 0 ++ (List.replicate (o1.length - k) 0 ++ q) := by
      rw [← List.append_assoc, List.replicate_append_replicate, show k + (o1.length - k) = o1.length by omega]
    rw [e, lay_at (A ++ [0]) (List.replicate k 0) (o1.take k) _ _ (by simp) (by simp; omega)]
    refine ⟨o1.take k ++ (List.replicate (o1.length - k) 0 ++ q), by simp, ?_⟩
    simp
    omega
  have hlay1f : lay S.vis (A.length + 1) o1 = (A ++ [0]) ++ (o1 ++ q) := by
    rw [hvis, lay_at (A ++ [0]) (List.replicate o1.length 0) o1 q _ (by simp) (by simp)]
  rcases wrsy_cases (n := n) (S := S) (o := A.length + 1) (s := o1) h.off h.pend (by omega) with ⟨hw1, hu1⟩ | hw1
  · rw [hw1]
    simp only [ne_eq, not_true_eq_false, if_false]
    rw [hlay1f]
    have hlay2 : lay ((A ++ [0]) ++ (o1 ++ q)) A.length [1] = cont H n (rs ++ l) := by
      unfold cont
      rw [happ, ← hq2]
      have := lay_at A [0] [1] (o1 ++ q) A.length rfl rfl
      rw [List.append_assoc, this, ho1]
      simp
    rcases wrsy_cases (n := n) (S := ⟨false, (used S.off S.left).2, (A ++ [0]) ++ (o1 ++ q), (A ++ [0]) ++ (o1 ++ q), []⟩) (o := A.length) (s := [1]) rfl rfl (by simp; omega) with ⟨hw2, hu2⟩ | hw2
    · rw [hw2]
      simp only [not_true_eq_false, if_false]
      refine .all _ ⟨hlay2, hlay2, rfl, rfl, ?_, hall⟩ ?_
      · rw [happ, List.length_append, ho1, List.length_cons]
        omega
      · intro h0
        show (used false (used S.off S.left).2).2 = 0
        rw [used_off h.off hu1 h0]
        rfl
    · rw [hw2]
      simp only
      rw [if_pos (by decide)]
      refine .lost _ rfl ?_ ?_
      · intro h0
        have e := wrsy_ok (n := n) (S := ⟨false, (used S.off S.left).2, (A ++ [0]) ++ (o1 ++ q), (A ++ [0]) ++ (o1 ++ q), []⟩) (o := A.length) (s := [1]) rfl (used_off h.off hu1 h0) rfl (by simp; omega)
        rw [e] at hw2
        simp at hw2
      · refine ⟨A.length, [1], rfl, by simp; omega, fun k hk => ?_⟩
        show Lies H n (lay ((A ++ [0]) ++ (o1 ++ q)) A.length (List.take k [1])) rs ∨ Lies H n (lay ((A ++ [0]) ++ (o1 ++ q)) A.length (List.take k [1])) (rs ++ l)
        rcases Nat.eq_zero_or_pos k with hk0 | hk0
        · left
          subst hk0
          rw [List.take_zero, lay_none]
          exact ⟨by simp; omega, h.lims, 0 :: (o1 ++ q), by rw [hA]; simp, .inr ⟨_, rfl⟩⟩
        · right
          obtain rfl : k = 1 := by
            simp at hk
            omega
          show Lies H n (lay ((A ++ [0]) ++ (o1 ++ q)) A.length [1]) (rs ++ l)
          rw [hlay2]
          exact Lies.of_cont H (by rw [happ, List.length_append, ho1, List.length_cons]; omega) hall
  · rw [hw1]
    simp only
    rw [if_pos (by decide)]
    refine .lost _ rfl ?_ ?_
    · intro h0
      have e := wrsy_ok (n := n) (S := S) (o := A.length + 1) (s := o1) h.off h0 h.pend (by omega)
      rw [e] at hw1
      simp at hw1
    · refine ⟨A.length + 1, o1, rfl, by omega, fun k hk => .inl ?_⟩
      obtain ⟨u, hu, hul⟩ := hlay1 k hk
      refine ⟨?_, h.lims, 0 :: u, ?_, .inr ⟨_, rfl⟩⟩
      · show (lay S.dur (A.length + 1) (o1.take k)).length = n
        rw [hu, List.length_append, List.length_cons]
        omega
      · show lay S.dur (A.length + 1) (o1.take k) = _
        rw [hu, hA]
end
end Go.Proofs.YtllbphanfahkkaaGreatDoor.RW

/-
  Package journal: first of the calls that write a string and make it durable: what it returns, what it leaves of the disk.
-/
namespace Go.Proofs.YtllbphanfahkkaaGreatDoor
open Go.RowKit RG
namespace RW
theorem wrsy_pend {n : Nat} {S : Dk} {o : Nat} {s : List UInt8} (h : (wrsy n S o s).1 = 0) : (wrsy n S o s).2.pend = [] := by
  unfold wrsy at h ⊢
  split at h
  · rename_i h1
    exact absurd h h1
  · rename_i h1
    rw [if_neg h1]
    unfold Dk.sync at h ⊢
    split at h
    · exact absurd h (by show ¬ ((221 : Int) = 0); decide)
    · rename_i h2
      rw [if_neg h2]
theorem wrsy_yes {n : Nat} {S : Dk} {o : Nat} {s : List UInt8} (h : (S.write n (o : Int) (strOf s)).1 = 0) : wrsy n S o s = (S.write n (o : Int) (strOf s)).2.sync := by
  unfold wrsy
  rw [if_neg (by rw [h]; simp)]
theorem wrsy_no {n : Nat} {S : Dk} {o : Nat} {s : List UInt8} (h : (S.write n (o : Int) (strOf s)).1 ≠ 0) : wrsy n S o s = S.write n (o : Int) (strOf s) := by
  unfold wrsy
  rw [if_pos h]
theorem write_pend {n : Nat} {S : Dk} {o : Int} {s : ByteArray} : (S.write n o s).2.pend.length ≤ S.pend.length + 1 := by
  unfold Dk.write
  split
  · exact Nat.le_succ _
  · split
    · simp
    · exact Nat.le_succ _
end RW
/-- the closure of writing, the bound method Sync -/
def wcl (p : Nat) : Value := .func (.func 90) #[] #[.pointer (some ⟨p, 0, none⟩), .pointer (some ⟨p + 1, 0, none⟩), .pointer (some ⟨p + 2, 0, none⟩)]
def scl (b : Nat) : Value := .func (.func 47) #[.pointer (some ⟨b, 0, none⟩)] #[]
theorem cf_w1 : ∀ args w, (callFunc 90 args).run Tryz.prog w = .ok (.enter 90 args) w := fun args w => by go_simp
theorem cf_sync : ∀ args w, (callFunc 47 args).run Tryz.prog w = .ok (.enter 47 args) w := fun args w => by go_simp
section
variable {H : List UInt8 → List UInt8} {B b n db vb jb : Nat} {rv : Value} {rs : List ByteArray} {br : Bool} {Fr : World → Prop}
theorem step_w (hFr : ∀ W W' pv S1, DiskAt W B b n db vb pv S1 → Fr W → Tch b db vb W W' → Below B W W' → Fr W') {p o : Nat} {z : List UInt8} (hJ : ∀ W, Fr W → JrAt H W B jb b rv rs br ∧ WrC W p jb (o : Int) (RW.strOf z)) {S : RW.Dk} (hp : S.pend.length < 1000000) (hz : z.length ≤ 4194304) {W : World} {pv : Value} (hd : DiskAt W B b n db vb pv S) (h : Fr W) :
    Calls Tryz.prog 90 (#[] ++ #[.pointer (some ⟨p, 0, none⟩), .pointer (some ⟨p + 1, 0, none⟩), .pointer (some ⟨p + 2, 0, none⟩)]) W fun e W' => e = .returned (.int .i64 (S.write n (o : Int) (RW.strOf z)).1) ∧ ∃ pv', DiskAt W' B b n db vb pv' (S.write n (o : Int) (RW.strOf z)).2 ∧ Fr W' := by
  obtain ⟨h1, h2⟩ := hJ W h
  refine (writing1_any B b n db vb p jb pv rv S rs br (o : Int) (RW.strOf z) W hd h1 h2 hp (by rw [RW.strOf_size]; omega)).mono ?_
  rintro e W' ⟨he, pv', g1, g2, g3⟩
  exact ⟨he, pv', g1, hFr W W' pv S hd h g2 g3⟩
theorem step_s (hFr : ∀ W W' pv S1, DiskAt W B b n db vb pv S1 → Fr W → Tch b db vb W W' → Below B W W' → Fr W') {S : RW.Dk} {W : World} {pv : Value} (hd : DiskAt W B b n db vb pv S) (h : Fr W) :
    Calls Tryz.prog 47 (#[.pointer (some ⟨b, 0, none⟩)] ++ #[]) W fun e W' => e = .returned (.int .i64 S.sync.1) ∧ ∃ pv', DiskAt W' B b n db vb pv' S.sync.2 ∧ Fr W' := by
  refine (sync_any B b n db vb pv S W hd).mono ?_
  rintro e W' ⟨he, pv', g1, g2, g3⟩
  exact ⟨he, pv', g1, hFr W W' pv S hd h g2 g3⟩
/-- one string, made durable -/
theorem first2 (hFr : ∀ W W' pv S1, DiskAt W B b n db vb pv S1 → Fr W → Tch b db vb W W' → Below B W W' → Fr W') {p o g : Nat} {z : List UInt8} (hJ : ∀ W, Fr W → JrAt H W B jb b rv rs br ∧ WrC W p jb (o : Int) (RW.strOf z)) (hg : ∀ W, Fr W → W.heap[g]? = some (.cells #[wcl p, scl b] 96 (0, 0))) {S : RW.Dk} (hp : S.pend.length < 900000) (hz : z.length ≤ 4194304) {w : World} {pv : Value} (hd : DiskAt w B b n db vb pv S) (h : Fr w) :
    Calls Tryz.prog 45 #[.slice (some ⟨g, 0, none⟩) 2 2] w fun e w' => e = .returned (.int .i64 (RW.wrsy n S o z).1) ∧ ∃ pv', DiskAt w' B b n db vb pv' (RW.wrsy n S o z).2 ∧ Fr w' := by
  have hI : ∃ I : Nat → World → Prop, I = fun j W => Fr W ∧ ((j = 0 ∧ ∃ pv', DiskAt W B b n db vb pv' S) ∨ (j = 1 ∧ (S.write n (o : Int) (RW.strOf z)).1 = 0 ∧ ∃ pv', DiskAt W B b n db vb pv' (S.write n (o : Int) (RW.strOf z)).2) ∨ (j = 2 ∧ (RW.wrsy n S o z).1 = 0 ∧ ∃ pv', DiskAt W B b n db vb pv' (RW.wrsy n S o z).2)) := ⟨_, rfl⟩
  obtain ⟨I, hI⟩ := hI
  refine (first_any [wcl p, scl b] (by show 2 ≤ 100; decide) g I (fun e W => Fr W ∧ e = (RW.wrsy n S o z).1 ∧ ∃ pv', DiskAt W B b n db vb pv' (RW.wrsy n S o z).2) (fun j W hi => hg W (by rw [hI] at hi; exact hi.1)) ?_ w (by rw [hI]; exact ⟨h, .inl ⟨rfl, pv, hd⟩⟩)).mono ?_
  · intro j f hf
    rcases j with _ | _ | j
    · cases hf
      refine ⟨_, _, _, rfl, cf_w1, fun W hi => ?_⟩
      rw [hI] at hi
      obtain ⟨hi1, hi2⟩ := hi
      obtain ⟨pv1, hd1⟩ : ∃ pv', DiskAt W B b n db vb pv' S := by
        rcases hi2 with ⟨_, h1⟩ | ⟨h1, _⟩ | ⟨h1, _⟩
        · exact h1
        · cases h1
        · cases h1
      refine (step_w hFr hJ (by omega) hz hd1 hi1).mono ?_
      rintro e W' ⟨rfl, pv', g1, g2⟩
      refine ⟨_, rfl, ?_⟩
      by_cases h0 : (S.write n (o : Int) (RW.strOf z)).1 = 0
      · exact .inr ⟨h0, by rw [hI]; exact ⟨g2, .inr (.inl ⟨rfl, h0, pv', g1⟩)⟩⟩
      · exact .inl ⟨h0, g2, by rw [RW.wrsy_no h0], pv', by rw [RW.wrsy_no h0]; exact g1⟩
    · cases hf
      refine ⟨_, _, _, rfl, cf_sync, fun W hi => ?_⟩
      rw [hI] at hi
      obtain ⟨hi1, hi2⟩ := hi
      obtain ⟨h0, pv1, hd1⟩ : (S.write n (o : Int) (RW.strOf z)).1 = 0 ∧ ∃ pv', DiskAt W B b n db vb pv' (S.write n (o : Int) (RW.strOf z)).2 := by
        rcases hi2 with ⟨h1, _⟩ | ⟨_, h1⟩ | ⟨h1, _⟩
        · cases h1
        · exact h1
        · cases h1
      refine (step_s hFr hd1 hi1).mono ?_
      rintro e W' ⟨rfl, pv', g1, g2⟩
      refine ⟨_, rfl, ?_⟩
      rw [← RW.wrsy_yes h0] at g1 ⊢
      by_cases h2 : (RW.wrsy n S o z).1 = 0
      · exact .inr ⟨h2, by rw [hI]; exact ⟨g2, .inr (.inr ⟨rfl, h2, pv', g1⟩)⟩⟩
      · exact .inl ⟨h2, g2, rfl, pv', g1⟩
    · simp at hf
  · rintro e w' (⟨m, rfl, _, h2, h3, h4⟩ | ⟨rfl, hi⟩)
    · exact ⟨by rw [h3], h4.elim fun q hq => ⟨q, hq, h2⟩⟩
    · rw [hI] at hi
      obtain ⟨hi1, hi2⟩ := hi
      rcases hi2 with ⟨h1, _⟩ | ⟨h1, _⟩ | ⟨_, h1, pv', h2⟩
      · cases h1
      · cases h1
      · exact ⟨by rw [h1], pv', h2, hi1⟩
/-- a string, then another one -/
theorem first4 (hFr : ∀ W W' pv S1, DiskAt W B b n db vb pv S1 → Fr W → Tch b db vb W W' → Below B W W' → Fr W') {p o p2 o2 g : Nat} {z z2 : List UInt8} (hJ : ∀ W, Fr W → JrAt H W B jb b rv rs br ∧ WrC W p jb (o : Int) (RW.strOf z)) (hJ2 : ∀ W, Fr W → JrAt H W B jb b rv rs br ∧ WrC W p2 jb (o2 : Int) (RW.strOf z2)) (hg : ∀ W, Fr W → W.heap[g]? = some (.cells #[wcl p, scl b, wcl p2, scl b] 96 (0, 0))) {S : RW.Dk} (hp : S.pend.length < 900000) (hz : z.length ≤ 4194304) (hz2 : z2.length ≤ 4194304) {w : World} {pv : Value} (hd : DiskAt w B b n db vb pv S) (h : Fr w) :
    Calls Tryz.prog 45 #[.slice (some ⟨g, 0, none⟩) 4 4] w fun e w' => ∃ R : Int × RW.Dk, R = (if (RW.wrsy n S o z).1 ≠ 0 then RW.wrsy n S o z else RW.wrsy n (RW.wrsy n S o z).2 o2 z2) ∧ e = .returned (.int .i64 R.1) ∧ ∃ pv', DiskAt w' B b n db vb pv' R.2 ∧ Fr w' := by
  obtain ⟨R, hR⟩ : ∃ R : Int × RW.Dk, R = (if (RW.wrsy n S o z).1 ≠ 0 then RW.wrsy n S o z else RW.wrsy n (RW.wrsy n S o z).2 o2 z2) := ⟨_, rfl⟩
  obtain ⟨S2, hS2⟩ : ∃ S2, S2 = (RW.wrsy n S o z).2 := ⟨_, rfl⟩
  have hRn : (RW.wrsy n S o z).1 ≠ 0 → R = RW.wrsy n S o z := fun h => by rw [hR, if_pos h]
  have hRy : (RW.wrsy n S o z).1 = 0 → R = RW.wrsy n S2 o2 z2 := fun h => by rw [hR, if_neg (by rw [h]; simp), hS2]
  have hI : ∃ I : Nat → World → Prop, I = fun j W => Fr W ∧ ((j = 0 ∧ ∃ pv', DiskAt W B b n db vb pv' S) ∨ (j = 1 ∧ (S.write n (o : Int) (RW.strOf z)).1 = 0 ∧ ∃ pv', DiskAt W B b n db vb pv' (S.write n (o : Int) (RW.strOf z)).2) ∨ (j = 2 ∧ (RW.wrsy n S o z).1 = 0 ∧ ∃ pv', DiskAt W B b n db vb pv' S2) ∨
      (j = 3 ∧ (RW.wrsy n S o z).1 = 0 ∧ (S2.write n (o2 : Int) (RW.strOf z2)).1 = 0 ∧ ∃ pv', DiskAt W B b n db vb pv' (S2.write n (o2 : Int) (RW.strOf z2)).2) ∨ (j = 4 ∧ R.1 = 0 ∧ ∃ pv', DiskAt W B b n db vb pv' R.2)) := ⟨_, rfl⟩
  obtain ⟨I, hI⟩ := hI
  refine (first_any [wcl p, scl b, wcl p2, scl b] (by show 4 ≤ 100; decide) g I (fun e W => Fr W ∧ e = R.1 ∧ ∃ pv', DiskAt W B b n db vb pv' R.2) (fun j W hi => hg W (by rw [hI] at hi; exact hi.1)) ?_ w (by rw [hI]; exact ⟨h, .inl ⟨rfl, pv, hd⟩⟩)).mono ?_
  · intro j f hf
    rcases j with _ | _ | _ | _ | j
    · cases hf
      refine ⟨_, _, _, rfl, cf_w1, fun W hi => ?_⟩
      rw [hI] at hi
      obtain ⟨hi1, hi2⟩ := hi
      obtain ⟨pv1, hd1⟩ : ∃ pv', DiskAt W B b n db vb pv' S := by
        rcases hi2 with ⟨_, h1⟩ | ⟨h1, _⟩ | ⟨h1, _⟩ | ⟨h1, _⟩ | ⟨h1, _⟩
        · exact h1
        all_goals cases h1
      refine (step_w hFr hJ (by omega) hz hd1 hi1).mono ?_
      rintro e W' ⟨rfl, pv', g1, g2⟩
      refine ⟨_, rfl, ?_⟩
      by_cases h0 : (S.write n (o : Int) (RW.strOf z)).1 = 0
      · exact .inr ⟨h0, by rw [hI]; exact ⟨g2, .inr (.inl ⟨rfl, h0, pv', g1⟩)⟩⟩
      · have h3 : (RW.wrsy n S o z).1 ≠ 0 := by rw [RW.wrsy_no h0]; exact h0
        exact .inl ⟨h0, g2, by rw [hRn h3, RW.wrsy_no h0], pv', by rw [hRn h3, RW.wrsy_no h0]; exact g1⟩
    · cases hf
      refine ⟨_, _, _, rfl, cf_sync, fun W hi => ?_⟩
      rw [hI] at hi
      obtain ⟨hi1, hi2⟩ := hi
      obtain ⟨h0, pv1, hd1⟩ : (S.write n (o : Int) (RW.strOf z)).1 = 0 ∧ ∃ pv', DiskAt W B b n db vb pv' (S.write n (o : Int) (RW.strOf z)).2 := by
        rcases hi2 with ⟨h1, _⟩ | ⟨_, h1⟩ | ⟨h1, _⟩ | ⟨h1, _⟩ | ⟨h1, _⟩
        · cases h1
        · exact h1
        all_goals cases h1
      refine (step_s hFr hd1 hi1).mono ?_
      rintro e W' ⟨rfl, pv', g1, g2⟩
      refine ⟨_, rfl, ?_⟩
      rw [← RW.wrsy_yes h0] at g1 ⊢
      by_cases h2 : (RW.wrsy n S o z).1 = 0
      · exact .inr ⟨h2, by rw [hI]; exact ⟨g2, .inr (.inr (.inl ⟨rfl, h2, pv', by rw [hS2]; exact g1⟩))⟩⟩
      · exact .inl ⟨h2, g2, by rw [hRn h2], pv', by rw [hRn h2]; exact g1⟩
    · cases hf
      refine ⟨_, _, _, rfl, cf_w1, fun W hi => ?_⟩
      rw [hI] at hi
      obtain ⟨hi1, hi2⟩ := hi
      obtain ⟨h0, pv1, hd1⟩ : (RW.wrsy n S o z).1 = 0 ∧ ∃ pv', DiskAt W B b n db vb pv' S2 := by
        rcases hi2 with ⟨h1, _⟩ | ⟨h1, _⟩ | ⟨_, h1⟩ | ⟨h1, _⟩ | ⟨h1, _⟩
        · cases h1
        · cases h1
        · exact h1
        all_goals cases h1
      refine (step_w hFr hJ2 (by rw [hS2, RW.wrsy_pend h0]; decide) hz2 hd1 hi1).mono ?_
      rintro e W' ⟨rfl, pv', g1, g2⟩
      refine ⟨_, rfl, ?_⟩
      by_cases h2 : (S2.write n (o2 : Int) (RW.strOf z2)).1 = 0
      · exact .inr ⟨h2, by rw [hI]; exact ⟨g2, .inr (.inr (.inr (.inl ⟨rfl, h0, h2, pv', g1⟩)))⟩⟩
      · exact .inl ⟨h2, g2, by rw [hRy h0, RW.wrsy_no h2], pv', by rw [hRy h0, RW.wrsy_no h2]; exact g1⟩
    · cases hf
      refine ⟨_, _, _, rfl, cf_sync, fun W hi => ?_⟩
      rw [hI] at hi
      obtain ⟨hi1, hi2⟩ := hi
      obtain ⟨h0, h2, pv1, hd1⟩ : (RW.wrsy n S o z).1 = 0 ∧ (S2.write n (o2 : Int) (RW.strOf z2)).1 = 0 ∧ ∃ pv', DiskAt W B b n db vb pv' (S2.write n (o2 : Int) (RW.strOf z2)).2 := by
        rcases hi2 with ⟨h1, _⟩ | ⟨h1, _⟩ | ⟨h1, _⟩ | ⟨_, h1⟩ | ⟨h1, _⟩
        · cases h1
        · cases h1
        · cases h1
        · exact h1
        · cases h1
      refine (step_s hFr hd1 hi1).mono ?_
      rintro e W' ⟨rfl, pv', g1, g2⟩
      refine ⟨_, rfl, ?_⟩
      rw [← RW.wrsy_yes h2] at g1 ⊢
      by_cases h3 : (RW.wrsy n S2 o2 z2).1 = 0
      · exact .inr ⟨h3, by rw [hI]; exact ⟨g2, .inr (.inr (.inr (.inr ⟨rfl, by rw [hRy h0]; exact h3, pv', by rw [hRy h0]; exact g1⟩)))⟩⟩
      · exact .inl ⟨h3, g2, by rw [hRy h0], pv', by rw [hRy h0]; exact g1⟩
    · simp at hf
  · rintro e w' (⟨m, rfl, _, h2, h3, h4⟩ | ⟨rfl, hi⟩)
    · exact ⟨R, hR, by rw [h3], h4.elim fun q hq => ⟨q, hq, h2⟩⟩
    · rw [hI] at hi
      obtain ⟨hi1, hi2⟩ := hi
      rcases hi2 with ⟨h1, _⟩ | ⟨h1, _⟩ | ⟨h1, _⟩ | ⟨h1, _⟩ | ⟨_, h1, pv', h2⟩
      · cases h1
      · cases h1
      · cases h1
      · cases h1
      · exact ⟨R, hR, by rw [h1], pv', h2, hi1⟩
end
end Go.Proofs.YtllbphanfahkkaaGreatDoor

/-
  Package journal: Open: what it returns, what it leaves of the disk.
-/
namespace Go.Proofs.YtllbphanfahkkaaGreatDoor
open Go.RowKit RG
namespace RW
theorem drop_all {l : List UInt8} (h : l.all (fun b => decide (b = 0)) = true) : ∀ (j : Nat) b, l[j]? = some b → b = 0 := fun j b hb => by
  simpa using List.all_eq_true.1 h b (List.mem_of_getElem? hb)
theorem trim_zeros {l : List UInt8} (h : l.all (fun b => decide (b = 0)) = true) : Lib.trimB l 0 = [] := by
  unfold Lib.trimB
  rw [Lib.trimRightB_take l 0 0 (Nat.zero_le _) (fun j b _ hb => drop_all h j b hb) (fun b h0 _ => absurd h0 (Nat.lt_irrefl 0)), List.take_zero]
  rfl
theorem last_nz : ∀ (l : List UInt8), l.all (fun b => decide (b = 0)) = false → ∃ k b, k < l.length ∧ l[k]? = some b ∧ b ≠ 0 ∧ ∀ j c, k < j → l[j]? = some c → c = 0 := by
  intro l
  induction l with
  | nil => intro h; simp at h
  | cons x t ih =>
    intro h
    by_cases ht : t.all (fun b => decide (b = 0)) = true
    · refine ⟨0, x, by simp, rfl, ?_, ?_⟩
      · rintro rfl
        rw [List.all_cons, ht] at h
        simp at h
      · intro j c hj hc
        rcases j with _ | j
        · omega
        · exact drop_all ht j c hc
    · obtain ⟨k, b, h1, h2, h3, h4⟩ := ih (by simpa using ht)
      refine ⟨k + 1, b, by simpa using h1, h2, h3, ?_⟩
      intro j c hj hc
      rcases j with _ | j
      · omega
      · exact h4 j c (by omega) hc
theorem first_nz : ∀ (l : List UInt8) (k : Nat) (b : UInt8), l[k]? = some b → b ≠ 0 → Lib.trimLeftB l 0 ≠ [] := by
  intro l
  induction l with
  | nil => intro k b h; simp at h
  | cons x t ih =>
    intro k b h hb
    by_cases hx : x = 0
    · rcases k with _ | k
      · simp at h
        exact absurd (h ▸ hx) hb
      · have e : Lib.trimLeftB (x :: t) 0 = Lib.trimLeftB t 0 := by
          unfold Lib.trimLeftB
          rw [List.dropWhile_cons_of_pos (by simp [hx])]
        rw [e]
        exact ih k b h hb
    · have e : Lib.trimLeftB (x :: t) 0 = x :: t := by
        unfold Lib.trimLeftB
        rw [List.dropWhile_cons_of_neg (by simp [hx])]
      rw [e]
      simp
theorem trim_some {l : List UInt8} (h : l.all (fun b => decide (b = 0)) = false) : Lib.trimB l 0 ≠ [] := by
  obtain ⟨k, b, h1, h2, h3, h4⟩ := last_nz l h
  unfold Lib.trimB
  rw [Lib.trimRightB_take l 0 (k + 1) (by omega) (fun j c hj hc => h4 j c (by omega) hc) (fun c _ hc => by
    rw [Nat.add_sub_cancel, h2] at hc
    cases hc
    exact h3)]
  exact first_nz _ k b (by rw [List.getElem?_take, if_pos (by omega)]; exact h2) h3
theorem emp_yes0 (s : ByteArray) (h : s = ⟨#[]⟩) : s.toList.isEmpty = true := by rw [h, ByteArray.toList_eq]; rfl
theorem emp_no0 (s : ByteArray) (h : s.data.toList ≠ []) : s.toList.isEmpty = false := by
  rw [ByteArray.toList_eq]
  cases hl : s.data.toList with
  | nil => exact absurd hl h
  | cons a l => rfl
end RW
theorem jopen_wr {H : List UInt8 → List UInt8} {n k left : Nat} {dur vis : List UInt8} {pend : List (Nat × ByteArray)} {rs : List ByteArray} (hL : RW.ldL H RW.z32 vis = some (rs, k)) (hz : (vis.drop k).all (fun b => decide (b = 0)) = false) :
    RW.jopen H n ⟨false, left, dur, vis, pend⟩ = if (RW.wrsy n ⟨false, left, dur, vis, pend⟩ k (List.replicate (n - k) 0)).1 ≠ 0 then ((RW.wrsy n ⟨false, left, dur, vis, pend⟩ k (List.replicate (n - k) 0)).1, none, (RW.wrsy n ⟨false, left, dur, vis, pend⟩ k (List.replicate (n - k) 0)).2) else (0, some rs, (RW.wrsy n ⟨false, left, dur, vis, pend⟩ k (List.replicate (n - k) 0)).2) := by
  unfold RW.jopen
  simp only [Bool.false_eq_true, if_false, hL, hz]
  by_cases h1 : (RW.Dk.write ⟨false, left, dur, vis, pend⟩ n (k : Int) (RW.strOf (List.replicate (n - k) 0))).1 = 0
  · rw [if_neg (by rw [h1]; simp), RW.wrsy_yes h1]
  · rw [if_pos h1, RW.wrsy_no h1, if_pos h1]
theorem Open_nil (w : World) : Calls Tryz.prog 26 #[.pointer none] w fun e w' => e = .returned (.tuple #[.pointer none, .int .i64 1]) ∧ w = w' := by
  go_enter Tryz.func26, Tryz.ntmps26
  go_wp2
  go_ret2
  exact ⟨rfl, rfl⟩
/-- what Open leaves -/
def OpenOut (H : List UInt8 → List UInt8) (B b n db vb : Nat) (S : RW.Dk) (w : World) (e : Ending) (w' : World) : Prop :=
  (∃ pv', DiskAt w' B b n db vb pv' (RW.jopen H n S).2.2) ∧ Tch b db vb w w' ∧ Below B w w' ∧
    (((RW.jopen H n S).2.1 = none ∧ (RW.jopen H n S).1 ≠ 0 ∧ e = .returned (.tuple #[.pointer none, .int .i64 (RW.jopen H n S).1])) ∨
      ∃ rs jb rv, (RW.jopen H n S).1 = 0 ∧ (RW.jopen H n S).2.1 = some rs ∧ (∃ k, RW.ldL H RW.z32 S.vis = some (rs, k)) ∧ e = .returned (.tuple #[.pointer (some ⟨jb, 0, none⟩), .int .i64 0]) ∧ JrAt H w' w.heap.size jb b rv rs false)
section
variable {ev : Operand → Value} {o : Oper} {x y : Operand} {w : World}
theorem op_lens {s : ByteArray} (ho : o.op = .call { callee := .builtin .len, args := #[x], argTypes := #[9] }) (hx : ev x = .string s) : (execOp ev o).run Tryz.prog w = .ok (.value (.int .i64 s.size)) w := by
  unfold execOp
  rw [ho]
  go_simp
theorem op_mfs {p : Option Addr} (ho : o.op = .makeFunc (.func 47) #[x] #[]) (hx : ev x = .pointer p) : (execOp ev o).run Tryz.prog w = .ok (.value (.func (.func 47) #[.pointer p] #[])) w := by
  unfold execOp
  rw [ho]
  go_simp
theorem op_bf2 {p : Nat} {b : Nat} (ho : o.op = .buildSlice 164 2 #[(0, x), (1, y)]) (hx : ev x = wcl p) (hy : ev y = scl b) : (execOp ev o).run Tryz.prog w = .ok (.value (.slice (some ⟨w.heap.size, 0, none⟩) 2 2)) (w.alloc (.cells #[wcl p, scl b] 96)) := by
  unfold wcl at hx
  unfold scl at hy
  unfold wcl scl execOp
  rw [ho]
  go_simp
end
theorem cf_writing : ∀ args w, (callFunc 46 args).run Tryz.prog w = .ok (.enter 46 args) w := fun args w => by go_simp
theorem cf_first : ∀ args w, (callFunc 45 args).run Tryz.prog w = .ok (.enter 45 args) w := fun args w => by go_simp
set_option maxRecDepth 100000 in
set_option maxHeartbeats 8000000 in
theorem Open_any (B b n db vb : Nat) (pv : Value) (S : RW.Dk) (a : Addr) (K : Nat → Int) (ks : Array Value) (hks : RW.WsOk ks K) (w : World) (hD : DiskAt w B b n db vb pv S) (hp : S.pend.length < 900000) (hK : KLaid w ks) (hg : w.cell? ⟨1, 0, none⟩ = some (RW.jeW a)) :
    Calls Tryz.prog 26 #[.pointer (some ⟨b, 0, none⟩)] w (OpenOut (RW.sha K) B b n db vb S w) := by
  have hDH := hide hD
  have hRd := hide (read_any B b n db vb pv S 0 (n : Int) w hD)
  have hSz := hide (size_any w hD)
  have hBs := hide (show B ≤ w.heap.size from Nat.le_trans hD.hb (Nat.le_of_lt hD.lt.1))
  obtain ⟨off, left, dur, vis, pend⟩ := S
  have hn := hD.hn
  have hlv : vis.length = n := hD.lv
  cases off
  case true =>
    rw [show (RW.Dk.read ⟨true, left, dur, vis, pend⟩ n 0 (n : Int)) = (⟨#[]⟩, 221) from rfl] at hRd
    clear hD hn hlv hp hg hK
    go_enter Tryz.func26, Tryz.ntmps26
    go_wp2_with (first
      | (go_at_call 56; refine hSz.out.mono ?_; rintro e w' ⟨rfl, rfl⟩)
      | (go_at_call 57; refine hRd.out.mono ?_; rintro e w' ⟨rfl, rfl⟩))
    go_ret2
    exact ⟨⟨pv, hDH.out⟩, Tch.refl _ _ _ _, Below.refl _ _, .inl ⟨rfl, by show (221 : Int) ≠ 0; decide, rfl⟩⟩
  case false =>
    obtain ⟨V, hV⟩ : ∃ V : ByteArray, V = RW.strOf vis := ⟨_, rfl⟩
    have hVl : V.data.toList = vis := by rw [hV, RW.strOf_list]
    have hVs : V.size = n := by rw [hV, RW.strOf_size, hlv]
    rw [show (RW.Dk.read ⟨false, left, dur, vis, pend⟩ n 0 (n : Int)) = (V, 0) by
      unfold RW.Dk.read
      rw [if_neg (by simp), if_pos ((RW.insB_iff n _ _).2 ⟨by omega, by omega, by omega, by omega⟩)]
      rw [show (0 : Int).toNat = 0 from rfl, List.drop_zero, Int.toNat_natCast, ← hlv, List.take_length, hV]] at hRd
    have hOp := hide (open_any b V (by omega) a K ks hks w hK hg)
    rw [hVl] at hOp
    have hnx := hide (fun W (hW : Below w.heap.size w W) => (show DiskAt W B b n db vb pv ⟨false, left, dur, vis, pend⟩ ∧ Tch b db vb w W ∧ Below B w W from ⟨hDH.out.next hW, Tch.of_below hW, hW.mono hBs.out⟩))
    have hlvH := hide hlv
    have hVlH := hide hVl
    have hVsH := hide hVs
    clear hV hVl hlv hD
    rcases hL : RW.ldL (RW.sha K) RW.z32 vis with _ | ⟨rs, k⟩
    · have hJ := hide (show RW.jopen (RW.sha K) n ⟨false, left, dur, vis, pend⟩ = (232, none, ⟨false, left, dur, vis, pend⟩) by
        unfold RW.jopen
        simp only [Bool.false_eq_true, if_false, hL])
      have hO2 := hide (hOp.out.mono (fun e w' hh => (show Below w.heap.size w w' ∧ e = .returned (.tuple #[.pointer none, .int .i64 232]) from by
        obtain ⟨h1, ⟨_, h2⟩ | ⟨qs, m, jb, rv, h2, _⟩⟩ := hh
        · exact ⟨h1, h2⟩
        · rw [hL] at h2; cases h2)))
      clear hOp hL hg hK hp
      go_enter Tryz.func26, Tryz.ntmps26
      go_wp2_with (first
        | (go_at_call 56; refine hSz.out.mono ?_; rintro e w' ⟨rfl, rfl⟩)
        | (go_at_call 57; refine hRd.out.mono ?_; rintro e w' ⟨rfl, rfl⟩)
        | (go_at_call 59; refine hO2.out.mono ?_; rintro e w2 ⟨hB2, rfl⟩; have hB2H := hide hB2; clear hB2))
      go_ret2
      obtain ⟨q1, q2, q3⟩ := hnx.out _ hB2H.out
      refine ⟨⟨pv, by rw [hJ.out]; exact q1⟩, q2, q3, .inl ⟨by rw [hJ.out], by rw [hJ.out]; show (232 : Int) ≠ 0; decide, by rw [hJ.out] <;> rfl⟩⟩
    · obtain ⟨_, hkn, hkl, _, _⟩ := RW.ldL_sound' (RW.sha K) (RW.sha_len K) hL
      rw [hlvH.out] at hkn
      have hO2 := hide (hOp.out.mono (fun e w' hh => (show ∃ jb rv, Below w.heap.size w w' ∧ e = .returned (.tuple #[.pointer (some ⟨jb, 0, none⟩), .int .i64 0]) ∧ JrAt (RW.sha K) w' w.heap.size jb b rv rs false from by
        obtain ⟨h1, ⟨h2, _⟩ | ⟨qs, m, jb, rv, h2, h3, h4⟩⟩ := hh
        · rw [hL] at h2; cases h2
        · rw [hL] at h2
          cases h2
          exact ⟨jb, rv, h1, h3, h4⟩)))
      have hTr := hide (fun W => SH.strings_Trim_one (V.extract k n) 0 (by decide) W (by rw [ByteArray.size_extract]; omega))
      have hXl : (V.extract k n).data.toList = vis.drop k := by
        rw [RW.extract_eq V k n (by omega), hVlH.out, ← hlvH.out, ← List.length_drop, List.take_length]
      rw [hXl] at hTr
      have hk0 : (0 : Int) ≤ (k : Int) := by omega
      have hk1 : (k : Int) ≤ (n : Int) := by omega
      have hklH := hide hkl
      have hLH := hide hL
      clear hOp hL hg hK hXl hkl
      obtain ⟨Z, hZ⟩ : ∃ Z : ByteArray, Z = ⟨(Lib.trimB (vis.drop k) 0).toArray⟩ := ⟨_, rfl⟩
      rw [← hZ] at hTr
      cases hz : (vis.drop k).all (fun b => decide (b = 0))
      case true =>
        have hJ := hide (show RW.jopen (RW.sha K) n ⟨false, left, dur, vis, pend⟩ = (0, some rs, ⟨false, left, dur, vis, pend⟩) by
          unfold RW.jopen
          simp only [Bool.false_eq_true, if_false, hLH.out, hz, if_true])
        have hZ0 : Z = ⟨#[]⟩ := by rw [hZ, RW.trim_zeros hz]
        subst hZ0
        clear hz hZ hp
        go_enter Tryz.func26, Tryz.ntmps26
        go_upto_region 9 with (first
          | (go_at_call 56; refine hSz.out.mono ?_; rintro e w' ⟨rfl, rfl⟩)
          | (go_at_call 57; refine hRd.out.mono ?_; rintro e w' ⟨rfl, rfl⟩)
          | (go_at_call 59; refine hO2.out.mono ?_; rintro e w2 ⟨jb, rv, hB2, rfl, hJ2⟩; have hB2H := hide hB2; have hJr := hide hJ2; clear hB2 hJ2))
        have c2 : w2.cell? ⟨jb, 2, none⟩ = some (.int .i64 (k : Int)) := by rw [← hklH.out]; exact cell_of hJr.out.b (tpc2 _ _ _ _)
        go_wp2_with (go_at_call 60; refine (hTr.out _).mono ?_; rintro e w3 ⟨rfl, hw3⟩; have h3H := hide (show Below w2.heap.size w2 w3 by rcases hw3 with rfl | rfl; exact Below.refl _ _; exact (Below.refl _ _).drew); clear hw3)
        go_ret2
        have hB3 := hB2H.out.trans (h3H.out.mono hB2H.out.size)
        obtain ⟨q1, q2, q3⟩ := hnx.out _ hB3
        refine ⟨⟨pv, by rw [hJ.out]; exact q1⟩, q2, q3, .inr ⟨rs, jb, rv, by rw [hJ.out], by rw [hJ.out], ⟨k, hLH.out⟩, rfl, hJr.out.next h3H.out⟩⟩
      case false =>
        have hZe : Z.toList.isEmpty = false := RW.emp_no0 Z (by rw [hZ]; exact RW.trim_some hz)
        have hJw := hide (jopen_wr (n := n) (left := left) (dur := dur) (pend := pend) hLH.out hz)
        obtain ⟨q, hq⟩ : ∃ q : Nat, q = n - k := ⟨_, rfl⟩
        have hqi : (n : Int) - (k : Int) = (q : Int) := by omega
        have hqiH := hide hqi
        have hq4 := hide (show q ≤ 4194304 by omega)
        rw [← hq] at hJw
        obtain ⟨E, hE⟩ : ∃ E, E = RW.wrsy n ⟨false, left, dur, vis, pend⟩ k (List.replicate q 0) := ⟨_, rfl⟩
        rw [← hE] at hJw
        have hEH := hide hE
        have hpH := hide hp
        clear hZ hz hq hE hp hqi
        go_enter Tryz.func26, Tryz.ntmps26
        go_upto_region 9 with (first
          | (go_at_call 56; refine hSz.out.mono ?_; rintro e w' ⟨rfl, rfl⟩)
          | (go_at_call 57; refine hRd.out.mono ?_; rintro e w' ⟨rfl, rfl⟩)
          | (go_at_call 59; refine hO2.out.mono ?_; rintro e w2 ⟨jb, rv, hB2, rfl, hJ2⟩; have hB2H := hide hB2; have hJr := hide hJ2; clear hB2 hJ2))
        have c2 : w2.cell? ⟨jb, 2, none⟩ = some (.int .i64 (k : Int)) := by rw [← hklH.out]; exact cell_of hJr.out.b (tpc2 _ _ _ _)
        go_upto_region 10 with (go_at_call 60; refine (hTr.out _).mono ?_; rintro e w3 ⟨rfl, hw3⟩; have h3H := hide (show Below w2.heap.size w2 w3 by rcases hw3 with rfl | rfl; exact Below.refl _ _; exact (Below.refl _ _).drew); clear hw3)
        clear c2
        have hB3 := hide (hB2H.out.trans (h3H.out.mono hB2H.out.size))
        have hD3 := hide ((hnx.out _ hB3.out).1)
        have hT3 := hide ((hnx.out _ hB3.out).2)
        have hJ3 := hide (hJr.out.next h3H.out)
        have c3W := hide (fun W (hW : Below w3.heap.size w3 W) => (show W.cell? ⟨jb, 2, none⟩ = some (.int .i64 (k : Int)) from by rw [← hklH.out]; exact cell_of (hJ3.out.next hW).b (tpc2 _ _ _ _)))
        clear hJr h3H hB2H hTr
        refine wp_region_k (fun h W => 20 ∈ h ∨ Below w3.heap.size w3 W) (fun _ => True) [14, 15, 16, 19, 20] (.op 0 (.op 1 (.op 2 (.op 3 (.op 4 (.op 5 (.op 6 (.op 7 (.op 8 (.op 9 (.op 10 (.op 11 (.op 12 (.op 13 (.op 17 (.op 18 (.op 14 (.op 15 (.op 16 (.op 19 (.op 20 (.op 21 .nil)))))))))))))))))))))) (by kernel_rfl) (by kernel_rfl) (by rfl) (by kernel_rfl) (.inr (Below.refl w3.heap.size w3).drew) trivial ?_
        refine k_val (.pointer (some ⟨jb, 0, none⟩)) (by apply opN; repeat' (first | apply OpAt.z | apply OpAt.s)) (by rfl) (by rfl) (fun _ W hS => op_mv rfl rfl) ?_
        simp only [Act.put, List.setIfInBounds_toArray, List.set_cons_zero, List.set_cons_succ]
        refine k_val (.pointer (some ⟨jb, 0, none⟩)) (by apply opN; repeat' (first | apply OpAt.z | apply OpAt.s)) (by rfl) (by rfl) (fun _ W hS => op_mv rfl rfl) ?_
        simp only [Act.put, List.setIfInBounds_toArray, List.set_cons_zero, List.set_cons_succ]
        refine k_val (.pointer (some ⟨jb, 0, none⟩)) (by apply opN; repeat' (first | apply OpAt.z | apply OpAt.s)) (by rfl) (by rfl) (fun _ W hS => op_nc rfl rfl) ?_
        simp only [Act.put, List.setIfInBounds_toArray, List.set_cons_zero, List.set_cons_succ]
        refine k_val (.pointer (some ⟨jb, 0, none⟩)) (by apply opN; repeat' (first | apply OpAt.z | apply OpAt.s)) (by rfl) (by rfl) (fun _ W hS => op_fa rfl rfl (fa_jt W)) ?_
        simp only [Act.put, List.setIfInBounds_toArray, List.set_cons_zero, List.set_cons_succ]
        refine k_val (.pointer (some ⟨jb, 2, none⟩)) (by apply opN; repeat' (first | apply OpAt.z | apply OpAt.s)) (by rfl) (by rfl) (fun _ W hS => op_fa rfl rfl (fa_tp2 W)) ?_
        simp only [Act.put, List.setIfInBounds_toArray, List.set_cons_zero, List.set_cons_succ]
        refine k_bef 20 (.int .i64 (k : Int)) (by apply opN; repeat' (first | apply OpAt.z | apply OpAt.s)) (by rfl) (by rfl) (by decide +kernel) (by rfl) (fun _ W hg hS => op_ld rfl rfl (jint_ld (c3W.out W (hS.resolve_left hg)))) ?_
        simp only [Act.put, List.setIfInBounds_toArray, List.set_cons_zero, List.set_cons_succ]
        refine k_val (.string V) (by apply opN; repeat' (first | apply OpAt.z | apply OpAt.s)) (by rfl) (by rfl) (fun _ W hS => op_mv rfl rfl) ?_
        simp only [Act.put, List.setIfInBounds_toArray, List.set_cons_zero, List.set_cons_succ]
        refine k_val (.int .i64 (n : Int)) (by apply opN; repeat' (first | apply OpAt.z | apply OpAt.s)) (by rfl) (by rfl) (fun _ W hS => (op_lens rfl rfl).trans (by rw [hVsH.out])) ?_
        simp only [Act.put, List.setIfInBounds_toArray, List.set_cons_zero, List.set_cons_succ]
        refine k_val (.pointer (some ⟨jb, 0, none⟩)) (by apply opN; repeat' (first | apply OpAt.z | apply OpAt.s)) (by rfl) (by rfl) (fun _ W hS => op_mv rfl rfl) ?_
        simp only [Act.put, List.setIfInBounds_toArray, List.set_cons_zero, List.set_cons_succ]
        refine k_val (.pointer (some ⟨jb, 0, none⟩)) (by apply opN; repeat' (first | apply OpAt.z | apply OpAt.s)) (by rfl) (by rfl) (fun _ W hS => op_nc rfl rfl) ?_
        simp only [Act.put, List.setIfInBounds_toArray, List.set_cons_zero, List.set_cons_succ]
        refine k_val (.pointer (some ⟨jb, 0, none⟩)) (by apply opN; repeat' (first | apply OpAt.z | apply OpAt.s)) (by rfl) (by rfl) (fun _ W hS => op_fa rfl rfl (fa_jt W)) ?_
        simp only [Act.put, List.setIfInBounds_toArray, List.set_cons_zero, List.set_cons_succ]
        refine k_val (.pointer (some ⟨jb, 2, none⟩)) (by apply opN; repeat' (first | apply OpAt.z | apply OpAt.s)) (by rfl) (by rfl) (fun _ W hS => op_fa rfl rfl (fa_tp2 W)) ?_
        simp only [Act.put, List.setIfInBounds_toArray, List.set_cons_zero, List.set_cons_succ]
        refine k_bef 20 (.int .i64 (k : Int)) (by apply opN; repeat' (first | apply OpAt.z | apply OpAt.s)) (by rfl) (by rfl) (by decide +kernel) (by rfl) (fun _ W hg hS => op_ld rfl rfl (jint_ld (c3W.out W (hS.resolve_left hg)))) ?_
        simp only [Act.put, List.setIfInBounds_toArray, List.set_cons_zero, List.set_cons_succ]
        refine k_val (.int .i64 (q : Int)) (by apply opN; repeat' (first | apply OpAt.z | apply OpAt.s)) (by rfl) (by rfl) (fun _ W hS => op_subj rfl rfl rfl hqiH.out (by have := hq4.out; omega)) ?_
        simp only [Act.put, List.setIfInBounds_toArray, List.set_cons_zero, List.set_cons_succ]
        refine k_val (.pointer (some ⟨b, 0, none⟩)) (by apply opN; repeat' (first | apply OpAt.z | apply OpAt.s)) (by rfl) (by rfl) (fun _ W hS => op_mv rfl rfl) ?_
        simp only [Act.put, List.setIfInBounds_toArray, List.set_cons_zero, List.set_cons_succ]
        refine k_val (scl b) (by apply opN; repeat' (first | apply OpAt.z | apply OpAt.s)) (by rfl) (by rfl) (fun _ W hS => op_mfs rfl rfl) ?_
        simp only [Act.put, List.setIfInBounds_toArray, List.set_cons_zero, List.set_cons_succ]
        refine k_step (fun K' u => ∃ g, u = .slice (some ⟨g, 0, none⟩) q q ∧ K' = fun W => W.heap[g]? = some (.cells (RW.byl (List.replicate q 0)).toArray 5 (0, 0))) (by apply opN; repeat' (first | apply OpAt.z | apply OpAt.s)) (by rfl) (by rfl) (by rfl) (fun W hCW hK => ?_) ?_
        · exact xup_val (op_make hq4.out rfl rfl rfl) ⟨.inr (alloc_bel (hCW.resolve_left (by decide)) (Nat.le_refl _) _), _, alloc_at1 W _, W.heap.size, rfl, rfl⟩
        rintro _ _ ⟨g, rfl, rfl⟩
        simp only [Act.put, List.setIfInBounds_toArray, List.set_cons_zero, List.set_cons_succ]
        refine k_step (fun K' u => u = .string (RW.strOf (List.replicate q 0)) ∧ K' = fun _ => True) (by apply opN; repeat' (first | apply OpAt.z | apply OpAt.s)) (by rfl) (by rfl) (by rfl) (fun W hCW hK => ?_) ?_
        · exact xup_val (op_cv rfl rfl hK (by simp)) ⟨.inr (hCW.resolve_left (by decide)), _, trivial, rfl, rfl⟩
        rintro _ _ ⟨rfl, rfl⟩
        simp only [Act.put, List.setIfInBounds_toArray, List.set_cons_zero, List.set_cons_succ]
        refine k_step (fun K' u => ∃ p, u = wcl p ∧ K' = fun W => WrC W p jb (k : Int) (RW.strOf (List.replicate q 0))) (by apply opN; repeat' (first | apply OpAt.z | apply OpAt.s)) (by rfl) (by rfl) (by rfl) (fun W hCW hK => ?_) ?_
        · refine op_x3 rfl rfl rfl rfl rfl cf_writing ?_
          refine (writing_any jb (k : Int) (RW.strOf (List.replicate q 0)) W).mono ?_
          rintro e W' ⟨rfl, rfl⟩
          obtain ⟨h4, h5⟩ := WrC.new W jb (k : Int) (RW.strOf (List.replicate q 0))
          exact ⟨_, rfl, .inr ((hCW.resolve_left (by decide)).trans (h5.mono (hCW.resolve_left (by decide)).size)), _, h4, W.heap.size, rfl, rfl⟩
        rintro _ _ ⟨p, rfl, rfl⟩
        simp only [Act.put, List.setIfInBounds_toArray, List.set_cons_zero, List.set_cons_succ]
        refine k_step (fun K' u => ∃ g2, u = .slice (some ⟨g2, 0, none⟩) 2 2 ∧ K' = fun W => WrC W p jb (k : Int) (RW.strOf (List.replicate q 0)) ∧ W.heap[g2]? = some (.cells #[wcl p, scl b] 96 (0, 0))) (by apply opN; repeat' (first | apply OpAt.z | apply OpAt.s)) (by rfl) (by rfl) (by rfl) (fun W hCW hK => ?_) ?_
        · exact xup_val (op_bf2 rfl rfl rfl) ⟨.inr (alloc_bel (hCW.resolve_left (by decide)) (Nat.le_refl _) _), _, ⟨hK.next (alloc_bel (Below.refl _ _) (Nat.le_refl _) _), alloc_at1 W _⟩, W.heap.size, rfl, rfl⟩
        rintro _ _ ⟨g2, rfl, rfl⟩
        simp only [Act.put, List.setIfInBounds_toArray, List.set_cons_zero, List.set_cons_succ]
        refine k_step (fun K' u => u = .int .i64 E.1 ∧ K' = fun W => ∃ pv', DiskAt W B b n db vb pv' E.2 ∧ JrAt (RW.sha K) W w.heap.size jb b rv rs false ∧ WrC W p jb (k : Int) (RW.strOf (List.replicate q 0)) ∧ W.heap[g2]? = some (.cells #[wcl p, scl b] 96 (0, 0)) ∧ Tch b db vb w3 W ∧ Below B w3 W) (by apply opN; repeat' (first | apply OpAt.z | apply OpAt.s)) (by rfl) (by rfl) (by rfl) (fun W hCW hK => ?_) ?_
        · have hb9 := hCW.resolve_left (by decide)
          have h0 : (fun W => JrAt (RW.sha K) W w.heap.size jb b rv rs false ∧ WrC W p jb (k : Int) (RW.strOf (List.replicate q 0)) ∧ W.heap[g2]? = some (.cells #[wcl p, scl b] 96 (0, 0)) ∧ Tch b db vb w3 W ∧ Below B w3 W) W := ⟨hJ3.out.next hb9, hK.1, hK.2, Tch.of_below hb9, hb9.mono (Nat.le_trans hBs.out hB3.out.size)⟩
          refine op_x1 rfl rfl rfl cf_first ?_
          refine (first2 (H := RW.sha K) (rv := rv) (rs := rs) (br := false) (Fr := fun W => JrAt (RW.sha K) W w.heap.size jb b rv rs false ∧ WrC W p jb (k : Int) (RW.strOf (List.replicate q 0)) ∧ W.heap[g2]? = some (.cells #[wcl p, scl b] 96 (0, 0)) ∧ Tch b db vb w3 W ∧ Below B w3 W) (fun W1 W2 pv1 S1 hd1 hf1 ht1 hbb1 => ⟨hf1.1.tch hd1 ht1, hf1.2.1.tch hd1 ht1, tch_keep hf1.2.2.1 hd1 ht1 (by decide), hf1.2.2.2.1.trans ht1, hf1.2.2.2.2.trans hbb1⟩) (fun W1 hf1 => ⟨hf1.1.mono hBs.out, hf1.2.1⟩) (fun W1 hf1 => hf1.2.2.1) hpH.out (by rw [List.length_replicate]; exact hq4.out) (hD3.out.next hb9) h0).mono ?_
          rintro e W' ⟨rfl, h4⟩
          rw [← hEH.out] at h4 ⊢
          exact ⟨_, rfl, .inl (by decide), _, h4, rfl, rfl⟩
        rintro _ _ ⟨rfl, rfl⟩
        simp only [Act.put, List.setIfInBounds_toArray, List.set_cons_zero, List.set_cons_succ]
        refine k_val (.int .i64 E.1) (by apply opN; repeat' (first | apply OpAt.z | apply OpAt.s)) (by rfl) (by rfl) (fun _ W hS => op_asg rfl rfl) ?_
        simp only [Act.put, List.setIfInBounds_toArray, List.set_cons_zero, List.set_cons_succ]
        refine k_nil ?_
        intro W hCW hK
        obtain ⟨pv', hD9, hJ9, _, _, hT9, hB9⟩ := hK
        have hD9H := hide hD9
        have hJ9H := hide hJ9
        have hT9H := hide (hT3.out.1.trans hT9)
        have hB9H := hide (hT3.out.2.trans hB9)
        clear hCW hD9 hJ9 hT9 hB9 hD3 hT3 hJ3 c3W
        obtain ⟨E1, E2⟩ := E
        by_cases hE0 : E1 = 0
        · subst hE0
          have hJ := hide (show RW.jopen (RW.sha K) n ⟨false, left, dur, vis, pend⟩ = (0, some rs, E2) by rw [hJw.out, if_neg (by simp)])
          clear hJw hEH
          go_wp2
          go_ret2
          exact ⟨⟨pv', by rw [hJ.out]; exact hD9H.out⟩, hT9H.out, hB9H.out, .inr ⟨rs, jb, rv, by rw [hJ.out], by rw [hJ.out], ⟨k, hLH.out⟩, rfl, hJ9H.out⟩⟩
        · have hJ := hide (show RW.jopen (RW.sha K) n ⟨false, left, dur, vis, pend⟩ = (E1, none, E2) by rw [hJw.out, if_pos hE0])
          have hne : (E1 != 0) = true := by simp [hE0]
          have hE0H := hide hE0
          clear hJw hEH hE0
          go_wp2
          go_ret2
          exact ⟨⟨pv', by rw [hJ.out]; exact hD9H.out⟩, hT9H.out, hB9H.out, .inl ⟨by rw [hJ.out], by rw [hJ.out]; exact hE0H.out, by rw [hJ.out] <;> rfl⟩⟩
end Go.Proofs.YtllbphanfahkkaaGreatDoor

/-
  strings.Builder (WriteString, String): what they do; String is laid from the library's own contracts. Only the builder, its bytes and new memory are written.
-/
namespace Go.Proofs.YtllbphanfahkkaaGreatDoor
open Go.Shelf Go.RowKit
def SH.lays169_ren : Go.Shelf.Ren := ⟨fun | 169 => 44 | n => n, fun | 70 => 87 | 9 => 9 | 0 => 0 | 72 => 89 | 37 => 39 | 127 => 163 | 3 => 3 | 5 => 5 | n => n, fun | n => n⟩
theorem SH.lays169 : Go.Proofs.Lays.n169 Tryz.prog SH.lays169_ren := {
  mixed := by kernel_rfl
  f169 := Tryz.func44.trans (congrArg some (by kernel_rfl))
  t0 := Tryz.underlying0
  a0 := Tryz.isAgg0
  z0 := Tryz.sizeOf0
  v0 := Tryz.zeroValue0
  t3 := Tryz.underlying3
  a3 := Tryz.isAgg3
  z3 := Tryz.sizeOf3
  v3 := Tryz.zeroValue3
  t9 := Tryz.underlying9
  a9 := Tryz.isAgg9
  z9 := Tryz.sizeOf9
  v9 := Tryz.zeroValue9
  t37 := Tryz.underlying39
  a37 := Tryz.isAgg39
  z37 := Tryz.sizeOf39
  v37 := Tryz.zeroValue39
  t70 := Tryz.underlying87
  a70 := Tryz.isAgg87
  z70 := Tryz.sizeOf87
  v70 := Tryz.zeroValue87
  t72 := Tryz.underlying89
  a72 := Tryz.isAgg89
  z72 := Tryz.sizeOf89
  v72 := Tryz.zeroValue89
  t127 := Tryz.underlying163
  a127 := Tryz.isAgg163
  z127 := Tryz.sizeOf163
  v127 := Tryz.zeroValue163 }
theorem SH.Builder_Extra_169 : Go.Proofs.Builder.Extra Tryz.prog SH.lays169_ren := {
  sizeBuilder := by kernel_rfl
  liesBuilder := by kernel_rfl
  t5 := Tryz.underlying5
  a5 := Tryz.isAgg5
  z5 := Tryz.sizeOf5
  v5 := Tryz.zeroValue5
  infoByte := by kernel_rfl
  cellsByte := by kernel_rfl
  sizeByte := by kernel_rfl
  neB5 := by decide }
open Go.RowKit in
theorem SH.Builder_String (B b : Nat) (l : List UInt8) (w : World) (h : Lib.IsBuilder 89 5 B b (Lib.byteCells l) w) (h0 : l ≠ []) :
    Calls Tryz.prog 44 #[.pointer (some ⟨b, 0, none⟩)] w fun e w' => e = .returned (.string ⟨l.toArray⟩) ∧ Below B w w' := Go.Proofs.Any.Builder_String SH.lays169 SH.Builder_Extra_169 B b l w h h0
open Go.RowKit in
theorem SH.Builder_String_empty (B b : Nat) (w : World) (h : Lib.IsBuilder 89 5 B b [] w) (hBw : B ≤ w.heap.size) :
    Calls Tryz.prog 44 #[.pointer (some ⟨b, 0, none⟩)] w fun e w' => e = .returned (.string ⟨#[]⟩) ∧ Below B w w' := Go.Proofs.Any.Builder_String_empty SH.lays169 SH.Builder_Extra_169 B b w h hBw
open Go.RowKit in
theorem SH.Builder_String_any (B b : Nat) (l : List UInt8) (w : World) (h : Lib.IsBuilder 89 5 B b (Lib.byteCells l) w) (hBw : B ≤ w.heap.size) :
    Calls Tryz.prog 44 #[.pointer (some ⟨b, 0, none⟩)] w fun e w' => e = .returned (.string ⟨l.toArray⟩) ∧ Below B w w' := Go.Proofs.Any.Builder_String_any SH.lays169 SH.Builder_Extra_169 B b l w h hBw
namespace RW
/-- whatever is neither the builder nor a row of bytes lies as it lay -/
def BKept (T5 b : Nat) (w w' : World) : Prop := ∀ k cs t fr, w.heap[k]? = some (.cells cs t fr) → t ≠ T5 → k ≠ b → w'.heap[k]? = w.heap[k]?
end RW
set_option maxHeartbeats 1000000 in
set_option maxRecDepth 100000 in
theorem copycheck_used (b : Nat) (w : World) (h0 : w.cell? ⟨b, 0, none⟩ = some (.pointer (some ⟨b, 0, none⟩))) :
    Calls Tryz.prog 88 #[.pointer (some ⟨b, 0, none⟩)] w fun e w' => e = .returned (.tuple #[]) ∧ w' = w := by
  obtain ⟨j, hj, _⟩ := Option.map_eq_some_iff.1 SH.Builder_Extra_169.sizeBuilder
  go_enter Tryz.func88, Tryz.ntmps88
  go_wp2
  rw [Lib.run_neq_ptr_same w _ Tryz.underlying87 hj]
  go_wp2
  go_end0
  exact ⟨rfl, rfl⟩
set_option maxHeartbeats 1000000 in
set_option maxRecDepth 100000 in
theorem copycheck_fresh (b : Nat) (w : World) (h0 : w.cell? ⟨b, 0, none⟩ = some (.pointer none)) (hsh : w.shape? b = some (89, 2)) (hfz : w.frozen? ⟨b, 0, none⟩ = false) :
    Calls Tryz.prog 88 #[.pointer (some ⟨b, 0, none⟩)] w fun e w' => e = .returned (.tuple #[]) ∧ w' = w.setCell ⟨b, 0, none⟩ (.pointer (some ⟨b, 0, none⟩)) := by
  obtain ⟨j, hj, hjs⟩ := Option.map_eq_some_iff.1 SH.Builder_Extra_169.sizeBuilder
  go_enter Tryz.func88, Tryz.ntmps88
  go_wp2
  rw [Lib.run_to_unsafe w ⟨b, 0, none⟩ Tryz.underlying87 Tryz.underlying193 hj (by rw [hjs]; decide) hsh (Nat.zero_lt_succ 1)]
  simp only [Result.andThen]
  rw [Oper.upon_value]
  go_wp2
  rw [run_callFunc_extern Tryz.func134 (by kernel_rfl) (by kernel_rfl) (by kernel_rfl) (e := Extern.AbiNoEscape.same) (by kernel_rfl)]
  rw [Lib.run_noEscape]
  simp only [Result.andThen]
  rw [Oper.upon_value]
  go_wp2
  rw [Lib.run_from_unsafe w ⟨b, 0, none⟩ Tryz.underlying193 Tryz.underlying87 hj hsh SH.Builder_Extra_169.liesBuilder]
  simp only [Result.andThen]
  rw [Oper.upon_value]
  go_wp2
  go_end0
  exact ⟨rfl, rfl⟩
theorem copycheck (B b : Nat) (bs : List Value) (w : World) (h : Lib.IsBuilder 89 5 B b bs w) :
    Calls Tryz.prog 88 #[.pointer (some ⟨b, 0, none⟩)] w fun e w' => e = .returned (.tuple #[]) ∧ Lib.BuilderAt 89 5 B b (.pointer (some ⟨b, 0, none⟩)) bs w' ∧ w.grownBy w' (some b) := by
  rcases h with h | h
  · refine (copycheck_fresh b w h.cell0 h.shape h.frozen0).mono ?_
    rintro e w' ⟨rfl, rfl⟩
    exact ⟨rfl, h.used _, grownBy_setCell' _ _ _⟩
  · refine (copycheck_used b w h.cell0).mono ?_
    rintro e w' ⟨rfl, rfl⟩
    exact ⟨rfl, h, ⟨rfl, rfl, rfl, Nat.le_refl _, fun _ _ _ => rfl⟩⟩
set_option maxHeartbeats 2000000 in
set_option maxRecDepth 100000 in
theorem writestring (B b : Nat) (bs : List Value) (s : ByteArray) (w : World) (h : Lib.IsBuilder 89 5 B b bs w) (hlen : bs.length + s.size ≤ 140737488355328) (hBw : B ≤ w.heap.size) :
    Calls Tryz.prog 42 #[.pointer (some ⟨b, 0, none⟩), .string s] w fun e w' => e = .returned (.tuple #[.int .i64 s.size, .nilIface]) ∧ Lib.BuilderAt 89 5 B b (.pointer (some ⟨b, 0, none⟩)) (bs ++ Lib.strCells s) w' ∧ Below B w w' ∧ RW.BKept 5 b w w' := by
  obtain ⟨i0, hi, hz0, hz1, hz2⟩ := info_parts SH.Builder_Extra_169.infoByte
  go_enter Tryz.func42, Tryz.ntmps42
  go_wp2_with (go_at_call 88; refine (copycheck B b bs _ h).mono ?_)
  rintro e w1 ⟨rfl, h1, hg1⟩
  obtain ⟨hB, v, hbk, hown, hne⟩ := h1
  have hsz1 := hg1.size
  have c0 : w1.cell? ⟨b, 0, none⟩ = some (.pointer (some ⟨b, 0, none⟩)) := by rw [Lib.cell_of_heap hbk]; rfl
  have c1 : w1.cell? ⟨b, 1, none⟩ = some v := by rw [Lib.cell_of_heap hbk]; rfl
  go_wp2_with (at_builtin; refine Lib.wpList_append_own_string _ rfl _ _ 39 9 rfl B 5 i0 Tryz.underlying39 Tryz.underlying9 hi hz0 hz1 hz2 _ _ _ rfl hown s rfl ?c3 ?c4 ?c5 ?_)
  case c3 => unfold maxLen; omega
  case c4 => omega
  case c5 => omega
  intro v' w2 hown' hgrow _
  have hlt : b < w1.heap.size := by
    rcases Nat.lt_or_ge b w1.heap.size with h' | h'
    · exact h'
    · simp [Array.getElem?_eq_none h'] at hbk
  have hb2 : w2.heap[b]? = some (.cells #[.pointer (some ⟨b, 0, none⟩), v] 89 (0, 0)) := by
    rw [hgrow.block b hlt (fun e => hne e.symm)]
    exact hbk
  have d0 : w2.cell? ⟨b, 0, none⟩ = some (.pointer (some ⟨b, 0, none⟩)) := by rw [Lib.cell_of_heap hb2]; rfl
  have d1 : w2.cell? ⟨b, 1, none⟩ = some v := by rw [Lib.cell_of_heap hb2]; rfl
  have f1 : w2.frozen? ⟨b, 1, none⟩ = false := Lib.frozen_of_heap hb2 1
  obtain ⟨ao, n', cap, rfl⟩ : ∃ ao n' cap, v' = .slice ao n' cap := by
    rcases hown'.2 with ⟨hv, _⟩ | ⟨g, cap, cur, hv, _⟩
    · exact ⟨_, _, _, hv⟩
    · exact ⟨_, _, _, hv⟩
  go_wp2
  go_ret2
  refine ⟨rfl, ?_, ?_, ?_⟩
  · exact Lib.BuilderAt.put (T := 89) (e := 5) hB hb2 (bs' := bs ++ Lib.strCells s) (by simpa [Lib.strCells_length] using hown') SH.Builder_Extra_169.neB5
  · have hb1 : Below B w w1 := (Below.refl B w).grown hg1 hBw (fun k e => by cases e; exact hB)
    exact (hb1.grown hgrow (by have := hb1.size; omega) (fun k hk => (hown.lt k hk).1)).setCell (p := ⟨b, 1, none⟩) hB _
  · intro k cs t fr hk ht hkb
    have hkl : k < w.heap.size := (Array.getElem?_eq_some_iff.1 hk).1
    have hk1 := (hg1.block k hkl (by simp; omega)).trans hk
    have hk2 : w2.heap[k]? = some (.cells cs t fr) := by
      refine (hgrow.block k (by omega) ?_).trans hk1
      intro e
      rcases hown.2 with ⟨hv, _⟩ | ⟨g, cap, cur, hv, _, hg, _⟩
      · rw [hv] at e; simp [Value.ownBlock] at e
      · rw [hv] at e; simp [Value.ownBlock] at e
        subst e
        rw [hk1] at hg
        injection hg with hg; injection hg with _ h2 _
        exact ht h2
    exact (Below.heap_setCell _ _ _ _ hkb).trans (hk2.trans hk.symm)
end Go.Proofs.YtllbphanfahkkaaGreatDoor

/-
  Package journal: pieces of Append: the predicate, the text of a builder, what may turn, the plain law of the outcome.
-/
namespace Go.Proofs.YtllbphanfahkkaaGreatDoor
open Go.RowKit RG
theorem freeze_other (w : World) (g k n : Nat) (h : k ≠ g) : (w.freeze ⟨g, 0, none⟩ n).heap[k]? = w.heap[k]? := by
  unfold World.freeze
  split
  · rfl
  · simp only [Array.getElem?_modify]
    rw [if_neg (Ne.symm h)]
set_option maxHeartbeats 1000000 in
set_option maxRecDepth 100000 in
/-- the text of a builder that holds a byte: its row of bytes alone turns -/
theorem bstring (B b : Nat) (l : List UInt8) (w : World) (h : Lib.IsBuilder 89 5 B b (Lib.byteCells l) w) (h0 : l ≠ []) :
    Calls Tryz.prog 44 #[.pointer (some ⟨b, 0, none⟩)] w fun e w' => e = .returned (.string ⟨l.toArray⟩) ∧ Below B w w' ∧ RW.BKept 5 b w w' := by
  obtain ⟨p, hB, v, hbk, hown, hne⟩ : ∃ p, Lib.BuilderAt 89 5 B b p (Lib.byteCells l) w := by
    rcases h with h | h
    · exact ⟨_, h⟩
    · exact ⟨_, h⟩
  have hl0 : l.length ≠ 0 := by simpa using h0
  rw [Lib.byteCells_length] at hown
  obtain ⟨g, cap, cur, rfl, hbg, hg, hnc, hcm, hcs, htake⟩ : ∃ g cap cur, v = .slice (some ⟨g, 0, none⟩) l.length cap ∧ B ≤ g ∧ w.heap[g]? = some (.cells cur 5 (0, 0)) ∧ l.length ≤ cap ∧ cap ≤ maxLen ∧ cur.size = cap * 1 ∧ cur.toList.take (l.length * 1) = Lib.byteCells l := by
    rcases hown.2 with ⟨_, hz⟩ | ⟨g, cap, cur, hv, r⟩
    · exact absurd hz hl0
    · exact ⟨g, cap, cur, hv, r⟩
  have c1 : w.drew.cell? ⟨b, 1, none⟩ = some (.slice (some ⟨g, 0, none⟩) l.length cap) := by
    have : w.drew.heap[b]? = some (.cells #[p, .slice (some ⟨g, 0, none⟩) l.length cap] 89 (0, 0)) := hbk
    rw [Lib.cell_of_heap this]; rfl
  have hSD : (Builtin.unsafeSliceData_ #[39] 163 #[.slice (some ⟨g, 0, none⟩) l.length cap]).run Tryz.prog w.drew = .ok (.pointer (some ⟨g, 0, none⟩)) w.drew :=
    Lib.run_unsafeSliceData_row _ _ _ _ _ _ (by omega)
  have hUS : (Builtin.unsafeString_ #[163, 3] 9 #[.pointer (some ⟨g, 0, none⟩), .int .i64 l.length]).run Tryz.prog w.drew = .ok (.string ⟨l.toArray⟩) (w.drew.freeze ⟨g, 0, none⟩ l.length) := by
    refine Lib.run_unsafeString_row w.drew 163 3 9 5 Tryz.underlying163 SH.Builder_Extra_169.cellsByte g cur.size (by have hg' : w.drew.heap[g]? = some (.cells cur 5 (0, 0)) := hg; simp [World.shape?, hg']) l h0 (by omega) (by unfold maxLen at hcm; omega) ?_
    intro j x hx
    have := hown.cells (g := g) rfl j (.int .u8 x.toNat) (by simp [Lib.byteCells, hx])
    exact this
  have hK : RW.BKept 5 b w (w.drew.freeze ⟨g, 0, none⟩ l.length) := fun k cs t fr hk ht _ => by
    refine (freeze_other _ _ _ _ ?_).trans rfl
    rintro rfl
    rw [hg] at hk
    cases hk
    exact ht rfl
  have hKH := hide hK
  clear hK
  have mixed : Tryz.prog.follows .mixedOrders = true := by kernel_rfl
  go_enter Tryz.func44, Tryz.ntmps44
  go_wp2
  go_region_o
  all_goals (go_wp2; go_ret; exact ⟨rfl, Lib.below_freeze (Below.drew (Below.refl B w)) (p := ⟨g, 0, none⟩) hbg _, hKH.out⟩)
theorem append1_any (s : ByteArray) (w : World) : Calls Tryz.prog 39 #[.string s] w fun e w' => e = .returned (.bool (decide (65536 < s.size))) ∧ ∃ q, w' = w.drewN q := by
  have hd : decide ((65536 : Int) < (s.size : Int)) = decide (65536 < s.size) := by
    by_cases h : 65536 < s.size
    · rw [decide_eq_true h, decide_eq_true (by omega)]
    · rw [decide_eq_false h, decide_eq_false (by omega)]
  go_enter Tryz.func39, Tryz.ntmps39
  go_wp2
  go_ret
  exact ⟨by first | rfl | rw [← hd], 0, rfl⟩
theorem enters_app1 : ∀ args w, (callFunc 39 args).run Tryz.prog w = .ok (.enter 39 args) w := fun args w => by go_simp
theorem containsLong {W : World} {v : Value} {l : List ByteArray} (h : StrR W v l) (hl : l.length ≤ 5000000) : Calls Tryz.prog 40 #[v, .func (.func 39) #[] #[]] W fun e w' => e = .returned (.bool (l.any fun s => decide (65536 < s.size))) ∧ ∃ q, w' = W.drewN q := by
  obtain ⟨a, c, rfl, _, hr⟩ := h
  rcases hr with rfl | ⟨b, o, rfl, _, hc⟩
  · refine (SH.slices_ContainsFunc_empty (α := ByteArray) a c (.func (.func 39) #[] #[]) W).mono ?_
    rintro e w' ⟨rfl, rfl⟩
    exact ⟨rfl, 0, rfl⟩
  · refine (SH.slices_ContainsFunc (fun s : ByteArray => Value.string s) (fun s => decide (65536 < s.size)) 39 #[] enters_app1 b o l.length c l W (fun W' x _ => append1_any x W') (Nat.le_refl _) (by omega) (fun j hj => ?_)).mono ?_
    · have e1 := hc j _ (List.getElem?_eq_getElem hj) 0 _ rfl
      rw [Nat.mul_one, Nat.add_zero] at e1
      rw [e1]
      simp [hj]
    · rintro e w' ⟨rfl, hq⟩
      rw [List.take_length]
      exact ⟨rfl, hq⟩
/-- what a call on a journal may turn -/
structure TchJ (jb b db vb : Nat) (W W' : World) : Prop where
  os : W'.os = W.os
  tape : W'.tape = W.tape
  output : W'.output = W.output
  size : W.heap.size ≤ W'.heap.size
  block : ∀ k, k < W.heap.size → k ≠ jb → k ≠ b → k ≠ db → k ≠ vb → (∀ cur fr, W.heap[k]? ≠ some (.cells cur 103 fr)) → W'.heap[k]? = W.heap[k]?
theorem TchJ.of_tch {jb b db vb : Nat} {W W' : World} (h : Tch b db vb W W') : TchJ jb b db vb W W' := ⟨h.os, h.tape, h.output, h.size, fun k hk _ h1 h2 h3 h4 => h.block k hk h1 h2 h3 h4⟩
theorem TchJ.trans {jb b db vb : Nat} {W W' W'' : World} (h : TchJ jb b db vb W W') (g : TchJ jb b db vb W' W'') : TchJ jb b db vb W W'' :=
  ⟨g.os.trans h.os, g.tape.trans h.tape, g.output.trans h.output, Nat.le_trans h.size g.size, fun k hk h0 h1 h2 h3 h4 => by
    have e := h.block k hk h0 h1 h2 h3 h4
    rw [← e]
    exact g.block k (Nat.lt_of_lt_of_le hk h.size) h0 h1 h2 h3 (by rw [e]; exact h4)⟩
theorem TchJ.of_chg {jb b db vb : Nat} {W W' : World} (h : Chg jb W W') : TchJ jb b db vb W W' := ⟨h.os, h.tape, h.output, h.size, fun k hk h0 _ _ _ _ => h.block k hk h0⟩
/-- the builder when blocks other than its own have turned -/
theorem bld_other {B b : Nat} {bs : List Value} {W W' : World} {Q : Nat → Prop} (h : Lib.IsBuilder 89 5 B b bs W) (hc : ChgS Q W W') (hQ : ∀ k c t fr, Q k → W.heap[k]? = some (.cells c t fr) → t ≠ 89 ∧ t ≠ 5) : Lib.IsBuilder 89 5 B b bs W' := by
  have key : ∀ p, Lib.BuilderAt 89 5 B b p bs W → Lib.BuilderAt 89 5 B b p bs W' := by
    rintro p ⟨hB, v, hb, ho, hne⟩
    refine ⟨hB, v, (hc.block b (Array.getElem?_eq_some_iff.1 hb).1 fun hq => (hQ b _ _ _ hq hb).1 rfl).trans hb, own_keep ho fun g hg => ?_, hne⟩
    obtain ⟨_, hl, c, fr, hcc⟩ := own_blk ho hg
    exact hc.block g hl fun hq => (hQ g _ _ _ hq hcc).2 rfl
  exact h.imp (key _) (key _)
/-- a tape when its builder has turned -/
theorem TA.bkept {W W' w : World} {B tb bb : Nat} {rv0 rv : Value} {hd : ByteArray} {n : Nat} {rest : List Value} {T : TypeId} {rs : List ByteArray} (h : TA W w B tb rv0 rv hd n rest T rs) (hT : T ≠ 5) (hk : RW.BKept 5 bb W W') (hne : tb ≠ bb) (hr : ∀ g, rv.ownBlock = some g → g ≠ bb) (hch : ChgS (fun j => j = tb ∨ rv0.ownBlock = some j) w W') : TA W' w B tb rv0 rv hd n rest T rs :=
  ⟨(hk tb _ _ _ h.b hT hne).trans h.b, own_keep h.own fun g hg => by
    obtain ⟨_, hl, c, fr, hcc⟩ := own_blk h.own hg
    exact hk g _ _ _ hcc (by decide) (hr g hg), hch, h.ob⟩
namespace RW
theorem take_snocB {l : List ByteArray} {j : Nat} {x : ByteArray} (h : l[j]? = some x) : l.take (j + 1) = l.take j ++ [x] := by
  rw [List.take_add_one, h]
  rfl
theorem stos_len_le {H : List UInt8 → List UInt8} (hH : ∀ l, (H l).length = 32) : ∀ (rs : List ByteArray) (h : List UInt8), (∀ r ∈ rs, r.size ≤ 65536) → (stos H h rs).length ≤ 65600 * rs.length
  | [], _, _ => by simp [stos]
  | r :: rs, h, hs => by
    have h1 := hs r (by simp)
    have h2 := stos_len_le hH rs (chn H h r) fun q hq => hs q (by simp [hq])
    have h3 := sto_len H hH h r
    have h4 := putI_len (r.data.toList.length : Int)
    have h5 : r.data.toList.length = r.size := by rw [Array.length_toList]; rfl
    have h6 : (putS r.data.toList).length = (putI (r.data.toList.length : Int)).length + r.data.toList.length := by unfold putS; rw [List.length_append]
    show (sto H h r ++ stos H (chn H h r) rs).length ≤ _
    rw [List.length_append, List.length_cons]
    omega
end RW
end Go.Proofs.YtllbphanfahkkaaGreatDoor

/-
  Package journal: Append: what it returns, what it leaves of the journal and of the disk.
-/
namespace Go.Proofs.YtllbphanfahkkaaGreatDoor
open Go.RowKit RG
theorem Append_nil (lv : Value) (w : World) : Calls Tryz.prog 11 #[.pointer none, lv] w fun e w' => e = .returned (.int .i64 1) ∧ w = w' := by
  go_enter Tryz.func11, Tryz.ntmps11
  go_wp2
  go_ret
  exact ⟨rfl, rfl⟩
namespace RW
theorem stos_ge (H : List UInt8 → List UInt8) : ∀ (rs : List ByteArray) (h : List UInt8), rs.length ≤ (stos H h rs).length
  | [], _ => Nat.zero_le _
  | r :: rs, h => by
    have h2 := stos_ge H rs (chn H h r)
    show _ ≤ (sto H h r ++ stos H (chn H h r) rs).length
    rw [List.length_append, List.length_cons]
    unfold sto
    rw [List.length_cons]
    omega
theorem japp_long {H : List UInt8 → List UInt8} {n : Nat} {S : Dk} {rs l : List ByteArray} {br : Bool} (h : br = true ∨ l.any (fun r => decide (65536 < r.size)) = true) : japp H n S rs br l = (230, rs, br, S) := by
  unfold japp
  rw [if_pos h]
theorem japp_full {H : List UInt8 → List UInt8} {n : Nat} {S : Dk} {rs l : List ByteArray} (h : l.any (fun r => decide (65536 < r.size)) = false) (hf : n - (stos H z32 rs).length < (stos H (hds H z32 rs) l).length) : japp H n S rs false l = (231, rs, false, S) := by
  unfold japp
  rw [if_neg (by rw [h]; simp), if_pos hf]
theorem japp_none {H : List UInt8 → List UInt8} {n : Nat} {S : Dk} {rs : List ByteArray} : japp H n S rs false [] = (0, rs, false, S) := by
  unfold japp
  rw [if_neg (by simp), if_neg (by simp [stos]), if_pos rfl]
theorem japp_wr {H : List UInt8 → List UInt8} {n : Nat} {S : Dk} {rs l : List ByteArray} (h : l.any (fun r => decide (65536 < r.size)) = false) (hf : ¬ (n - (stos H z32 rs).length < (stos H (hds H z32 rs) l).length)) (hl : l ≠ []) {R : Int × Dk}
    (hR : R = (if (wrsy n S ((stos H z32 rs).length + 1) ((stos H (hds H z32 rs) l).drop 1)).1 ≠ 0 then wrsy n S ((stos H z32 rs).length + 1) ((stos H (hds H z32 rs) l).drop 1) else wrsy n (wrsy n S ((stos H z32 rs).length + 1) ((stos H (hds H z32 rs) l).drop 1)).2 (stos H z32 rs).length ((stos H (hds H z32 rs) l).take 1))) :
    japp H n S rs false l = if R.1 ≠ 0 then (R.1, rs, true, R.2) else (0, rs ++ l, false, R.2) := by
  unfold japp
  rw [if_neg (by rw [h]; simp), if_neg hf, if_neg hl]
  by_cases h1 : (wrsy n S ((stos H z32 rs).length + 1) ((stos H (hds H z32 rs) l).drop 1)).1 = 0
  · rw [if_neg (by rw [h1]; simp)] at hR ⊢
    rw [hR]
  · rw [if_pos h1] at hR ⊢
    rw [hR, if_pos h1]
end RW
/-- Append under way: the next tape, the text -/
structure ApW (W w : World) (N tb bb : Nat) (rv : Value) (hd : ByteArray) (n : Nat) (rs : List ByteArray) (t : List UInt8) : Prop where
  b : W.heap[tb]? = some (.cells (tpc rv hd n []) 83 (0, 0))
  own : StrsOwn W N rv rs
  bl : Lib.IsBuilder 89 5 bb bb (Lib.byteCells t) W
  bel : Below N w W
  tbN : N ≤ tb
  bbN : N ≤ bb
theorem bl_block {T e : TypeId} {B b : Nat} {bs : List Value} {W : World} (h : Lib.IsBuilder T e B b bs W) : ∃ cs, W.heap[b]? = some (.cells cs T (0, 0)) := by
  rcases h with ⟨_, v, hb, _⟩ | ⟨_, v, hb, _⟩
  · exact ⟨_, hb⟩
  · exact ⟨_, hb⟩
theorem ApW.ne {W w : World} {N tb bb : Nat} {rv : Value} {hd : ByteArray} {n : Nat} {rs : List ByteArray} {t : List UInt8} (h : ApW W w N tb bb rv hd n rs t) : tb ≠ bb := by
  obtain ⟨cs, hc⟩ := bl_block h.bl
  exact blocks_ne h.b hc (by decide)
/-- a record added -/
theorem ApW.add {W W' w : World} {N tb bb : Nat} {rv rv' : Value} {hd hd' : ByteArray} {n n' : Nat} {rs rs' : List ByteArray} {t : List UInt8} (h : ApW W w N tb bb rv hd n rs t) (g : TA W' W N tb rv rv' hd' n' [] 83 rs') : ApW W' w N tb bb rv' hd' n' rs' t :=
  ⟨g.b, g.own, bld_other h.bl g.ch (by
    rintro k c t fr (rfl | e) hk
    · rw [h.b] at hk
      cases hk
      exact ⟨by decide, by decide⟩
    · obtain ⟨_, _, c', fr', hc⟩ := own_blk h.own e
      rw [hc] at hk
      cases hk
      exact ⟨by decide, by decide⟩), h.bel.trans (g.ch.belowJ (fun k hk => hk.elim (fun e => e ▸ h.tbN) fun e => (own_blk h.own e).1) (Nat.le_trans h.tbN (Nat.le_of_lt (Array.getElem?_eq_some_iff.1 h.b).1))), h.tbN, h.bbN⟩
/-- the text written -/
theorem ApW.put {W W' w : World} {N tb bb : Nat} {rv : Value} {hd : ByteArray} {n : Nat} {rs : List ByteArray} {t t' : List UInt8} (h : ApW W w N tb bb rv hd n rs t) (hb : Lib.IsBuilder 89 5 bb bb (Lib.byteCells t') W') (hB : Below bb W W') (hk : RW.BKept 5 bb W W') : ApW W' w N tb bb rv hd n rs t' :=
  ⟨(hk tb _ _ _ h.b (by decide) h.ne).trans h.b, own_keep h.own fun g hg => by
    obtain ⟨_, _, c, fr, hc⟩ := own_blk h.own hg
    obtain ⟨cs, hcs⟩ := bl_block h.bl
    exact hk g _ _ _ hc (by decide) (blocks_ne hc hcs (by decide)), hb, h.bel.trans (hB.mono h.bbN), h.tbN, h.bbN⟩
theorem byte_strCells (l : List UInt8) : Lib.strCells ⟨l.toArray⟩ = Lib.byteCells l := by simp [Lib.strCells, Lib.byteCells]
theorem byte_app (a b : List UInt8) : Lib.byteCells (a ++ b) = Lib.byteCells a ++ Lib.byteCells b := by simp [Lib.byteCells]
theorem disk_chg {W W' : World} {B b n db vb jb : Nat} {pv : Value} {S : RW.Dk} {cs : Array Value} (h : DiskAt W B b n db vb pv S) (hj : W.heap[jb]? = some (.cells cs 85 (0, 0))) (hc : Chg jb W W') : DiskAt W' B b n db vb pv S :=
  h.keep fun k hk hq => hc.block k hk (by
    rintro rfl
    rcases hq with e | e | e | ⟨cur, fr, e⟩
    · exact blocks_ne hj h.row (by decide) e
    · exact blocks_ne hj h.dur (by decide) e
    · exact blocks_ne hj h.vis (by decide) e
    · exact blocks_ne hj e (by decide) rfl)
/-- the next tape, written -/
structure TpW (W : World) (N tb : Nat) (rv : Value) (hd : ByteArray) (n : Nat) (rs : List ByteArray) : Prop where
  b : W.heap[tb]? = some (.cells (tpc rv hd n []) 83 (0, 0))
  own : StrsOwn W N rv rs
theorem TpW.next {W W' : World} {N tb n : Nat} {rv : Value} {hd : ByteArray} {rs : List ByteArray} (h : TpW W N tb rv hd n rs) (hB : Below W.heap.size W W') : TpW W' N tb rv hd n rs :=
  ⟨(hB.block _ (Array.getElem?_eq_some_iff.1 h.b).1).trans h.b, own_keep h.own fun g hg => hB.block _ (own_blk h.own hg).2.1⟩
theorem TpW.tch {W W' : World} {B b n' db vb N tb n : Nat} {pv rv : Value} {S : RW.Dk} {hd : ByteArray} {rs : List ByteArray} (h : TpW W N tb rv hd n rs) (hd' : DiskAt W B b n' db vb pv S) (hT : Tch b db vb W W') : TpW W' N tb rv hd n rs :=
  ⟨tch_keep h.b hd' hT (by decide), own_keep h.own fun g hg => by
    obtain ⟨_, _, c, fr, hc⟩ := own_blk h.own hg
    rw [hc]
    exact tch_keep hc hd' hT (by decide)⟩
theorem ApW.kept {W W' w : World} {N tb bb : Nat} {rv : Value} {hd : ByteArray} {n : Nat} {rs : List ByteArray} {t : List UInt8} (h : ApW W w N tb bb rv hd n rs t) (hk : RW.BKept 5 bb W W') : TpW W' N tb rv hd n rs :=
  ⟨(hk tb _ _ _ h.b (by decide) h.ne).trans h.b, own_keep h.own fun g hg => by
    obtain ⟨_, _, c, fr, hc⟩ := own_blk h.own hg
    obtain ⟨cs, hcs⟩ := bl_block h.bl
    exact hk g _ _ _ hc (by decide) (blocks_ne hc hcs (by decide))⟩
/-- what Append leaves -/
def AppOut (H : List UInt8 → List UInt8) (B b n db vb jb : Nat) (S : RW.Dk) (rs l : List ByteArray) (br : Bool) (w : World) (e : Ending) (w' : World) : Prop :=
  e = .returned (.int .i64 (RW.japp H n S rs br l).1) ∧ (∃ pv' rv', DiskAt w' B b n db vb pv' (RW.japp H n S rs br l).2.2.2 ∧ JrAt H w' B jb b rv' (RW.japp H n S rs br l).2.1 (RW.japp H n S rs br l).2.2.1) ∧ TchJ jb b db vb w w' ∧ Below B w w'
section
variable {ev : Operand → Value} {o : Oper} {x y z u : Operand} {w : World}
theorem op_sl1 {s : ByteArray} (ho : o.op = .slice 9 x (some y) none none) (hx : ev x = .string s) (hy : ev y = .int .i64 1) (h : 1 ≤ s.size) : (execOp ev o).run Tryz.prog w = .ok (.value (.string (s.extract 1 s.size))) w := by
  have h2 : (1 : Int) ≤ (s.size : Int) := by omega
  unfold execOp
  rw [ho]
  simp only [hx, hy, Option.map_some, Option.map_none]
  go_simp
theorem op_sl01 {s : ByteArray} (ho : o.op = .slice 9 x none (some y) none) (hx : ev x = .string s) (hy : ev y = .int .i64 1) (h : 1 ≤ s.size) : (execOp ev o).run Tryz.prog w = .ok (.value (.string (s.extract 0 1))) w := by
  have h2 : (1 : Int) ≤ (s.size : Int) := by omega
  unfold execOp
  rw [ho]
  simp only [hx, hy, Option.map_some, Option.map_none]
  go_simp
theorem op_bf4 {p q b : Nat} (ho : o.op = .buildSlice 164 4 #[(0, x), (1, y), (2, z), (3, u)]) (hx : ev x = wcl p) (hy : ev y = scl b) (hz : ev z = wcl q) (hu : ev u = scl b) : (execOp ev o).run Tryz.prog w = .ok (.value (.slice (some ⟨w.heap.size, 0, none⟩) 4 4)) (w.alloc (.cells #[wcl p, scl b, wcl q, scl b] 96)) := by
  unfold wcl at hx hz
  unfold scl at hy hu
  unfold wcl scl execOp
  rw [ho]
  go_simp
end
theorem tp_size (rv : Value) (h : ByteArray) (n : Nat) : (Tryz.prog.info? 83).map (·.size) = some (tpc rv h n []).size := by kernel_rfl
theorem tp_sizeL (rv : Value) (h : ByteArray) (n : Nat) : (Tryz.prog.info? 83).map (·.size) = some ([rv, .string h, .int .i64 (n : Int)] : List Value).length := by kernel_rfl
theorem tpc_range {W : World} {jb : Nat} {rv : Value} {h : ByteArray} {n : Nat} {rest : List Value} {T : TypeId} (hb : W.heap[jb]? = some (.cells (tpc rv h n rest) T (0, 0))) : W.rangeAt jb 0 [rv, .string h, .int .i64 (n : Int)] := fun i u hu => by
  rw [Nat.zero_add]
  rcases i with _ | _ | _ | i
  · cases hu; exact cell_of hb (tpc0 _ _ _ _)
  · cases hu; exact cell_of hb (tpc1 _ _ _ _)
  · cases hu; exact cell_of hb (tpc2 _ _ _ _)
  · simp at hu
theorem tpc_there {W : World} {jb : Nat} {rv u : Value} {h h' : ByteArray} {n n' : Nat} {rest : List Value} {T : TypeId} (hb : W.heap[jb]? = some (.cells (tpc rv h n rest) T (0, 0))) : W.there jb 0 (tpc u h' n' []).size := fun j hj => by
  have h3 : j < 3 := hj
  refine ⟨?_, by simp [World.frozen?, hb]⟩
  rw [Nat.zero_add]
  rcases j with _ | _ | _ | j
  · rw [cell_of hb (tpc0 _ _ _ _)]; rfl
  · rw [cell_of hb (tpc1 _ _ _ _)]; rfl
  · rw [cell_of hb (tpc2 _ _ _ _)]; rfl
  · omega
theorem tpc_splice (rv u : Value) (h h' : ByteArray) (n n' : Nat) (rest : List Value) : splice (tpc rv h n rest) 0 (tpc u h' n' []).toList = tpc u h' n' rest := by
  show splice (tpc rv h n rest) 0 [u, .string h', .int .i64 (n' : Int)] = _
  unfold splice splice splice splice
  rw [tpc_set0, tpc_set1, tpc_set2]
theorem setCells_chg (W : World) (g o : Nat) (vs : List Value) : Chg g W (W.setCells g o vs) := by
  have h := setCells_grown vs W g o
  exact ⟨h.os, h.tape, h.output, h.size, fun k hk hn => h.block k hk (fun e => hn (Option.some.inj e))⟩
theorem gen_wlJ {P : Program} {ops : Array Oper} {rest : List Oper} {Q : Exit → Act → World → Prop} {a : Act} {W : World} (R : World → Prop) (hR : R W) (h : ∀ W', R W' → wpList P ops Q rest a W') : wpList P ops Q rest a W := h W hR
theorem jr_broken {H : List UInt8 → List UInt8} {W : World} {B jb d : Nat} {rv : Value} {rs : List ByteArray} {br : Bool} (h : JrAt H W B jb d rv rs br) : JrAt H (W.setCell ⟨jb, 4, none⟩ (.bool true)) B jb d rv rs true ∧ Chg jb W (W.setCell ⟨jb, 4, none⟩ (.bool true)) :=
  ⟨⟨heap_setCell_same _ _ _ _ _ _ h.b, own_keep h.own fun g hg => by
    obtain ⟨_, _, c, fr, hc⟩ := own_blk h.own hg
    exact Below.heap_setCell _ _ _ _ (blocks_ne hc h.b (by decide)), h.hb⟩, (Chg.refl _ _).set _⟩
theorem jr_next {H : List UInt8 → List UInt8} {W : World} {B N jb d tb : Nat} {rv rv' : Value} {rs rs' : List ByteArray} {br : Bool} (h : JrAt H W B jb d rv rs br) (g : TpW W N tb rv' (RW.strOf (RW.hds H RW.z32 rs')) (RW.stos H RW.z32 rs').length rs') (hBN : B ≤ N) : JrAt H (W.setCells jb 0 (tpc rv' (RW.strOf (RW.hds H RW.z32 rs')) (RW.stos H RW.z32 rs').length []).toList) B jb d rv' rs' br :=
  ⟨by
    have h1 := setCells_heap (tpc rv' (RW.strOf (RW.hds H RW.z32 rs')) (RW.stos H RW.z32 rs').length []).toList W jb 0 _ _ _ h.b
    rwa [tpc_splice] at h1, own_keep (own_mono g.own hBN) fun k hk => by
    obtain ⟨_, hl, c, fr, hc⟩ := own_blk g.own hk
    exact (setCells_chg _ _ _ _).block k hl (blocks_ne hc h.b (by decide)), h.hb⟩
theorem tpc_one (rv : Value) (h : ByteArray) (n : Nat) (hv : rv.oneCell' = true) : (tpc rv h n []).all (·.oneCell') = true := by
  refine all_oneCell_toArray ?_
  intro v hv'
  rcases List.mem_cons.1 hv' with rfl | hv'
  · exact hv
  rcases List.mem_cons.1 hv' with rfl | hv'
  · rfl
  rcases List.mem_cons.1 hv' with rfl | hv'
  · rfl
  · cases hv'
set_option maxRecDepth 100000 in
set_option maxHeartbeats 8000000 in
theorem Append_any (B b n db vb jb : Nat) (pv rv lv : Value) (S : RW.Dk) (rs l : List ByteArray) (br : Bool) (K : Nat → Int) (ks : Array Value) (hks : RW.WsOk ks K) (w : World) (hD : DiskAt w B b n db vb pv S) (hp : S.pend.length < 900000) (hJ : JrAt (RW.sha K) w B jb b rv rs br) (hfit : (RW.stos (RW.sha K) RW.z32 rs).length ≤ n) (hl : StrR w lv l) (hll : l.length ≤ 1000) (hK : KLaid w ks) :
    Calls Tryz.prog 11 #[.pointer (some ⟨jb, 0, none⟩), lv] w (AppOut (RW.sha K) B b n db vb jb S rs l br w) := by
  have hBs := hide (show B ≤ w.heap.size from Nat.le_trans hD.hb (Nat.le_of_lt hD.lt.1))
  have hnx := hide (fun W (hW : Below w.heap.size w W) => (show DiskAt W B b n db vb pv S ∧ JrAt (RW.sha K) W B jb b rv rs br ∧ StrR W lv l ∧ KLaid W ks ∧ TchJ jb b db vb w W ∧ Below B w W from ⟨hD.next hW, hJ.next hW, hl.next hW, RW.jklaid hK hW (Nat.le_refl _), .of_tch (Tch.of_below hW), hW.mono hBs.out⟩))
  have hn := hD.hn
  have c4 : w.cell? ⟨jb, 4, none⟩ = some (.bool br) := hJ.brk
  cases br
  case true =>
    have hR := hide (RW.japp_long (H := RW.sha K) (n := n) (S := S) (rs := rs) (l := l) (br := true) (.inl rfl))
    have q0 := hide (hnx.out w (Below.refl _ _))
    clear hD hJ hl hK hfit hnx
    go_enter Tryz.func11, Tryz.ntmps11
    go_wp2
    go_ret
    unfold AppOut
    rw [hR.out]
    obtain ⟨q1, q2, _, _, q5, q6⟩ := q0.out
    exact ⟨rfl, ⟨pv, rv, q1, q2⟩, q5, q6⟩
  case false =>
    have hCo := hide (containsLong hl (by omega))
    cases hlong : l.any (fun r => decide (65536 < r.size))
    case true =>
      have hR := hide (RW.japp_long (H := RW.sha K) (n := n) (S := S) (rs := rs) (l := l) (br := false) (.inr hlong))
      rw [hlong] at hCo
      clear hD hJ hl hK hfit hlong
      go_enter Tryz.func11, Tryz.ntmps11
      go_wp2_with (go_at_call 40; refine hCo.out.mono ?_; rintro e w1 ⟨rfl, hq1⟩; have hB1H := hide (show Below w.heap.size w w1 by obtain ⟨q, rfl⟩ := hq1; exact ⟨rfl, rfl, rfl, Nat.le_refl _, fun _ _ => rfl⟩); clear hq1)
      go_ret
      unfold AppOut
      rw [hR.out]
      obtain ⟨q1, q2, _, _, q5, q6⟩ := hnx.out _ hB1H.out
      exact ⟨rfl, ⟨pv, rv, q1, q2⟩, q5, q6⟩
    case false =>
      rw [hlong] at hCo
      have hlm := hide (show ∀ r ∈ l, r.size ≤ 65536 from fun r hr => by
        have h1 : ¬ 65536 < r.size := fun e => by
          have : l.any (fun r => decide (65536 < r.size)) = true := List.any_eq_true.2 ⟨r, hr, decide_eq_true e⟩
          rw [hlong] at this
          cases this
        omega)
      have hlongH := hide hlong
      have hfitH := hide hfit
      obtain ⟨N, hN⟩ : ∃ N, N = w.heap.size := ⟨_, rfl⟩
      have hNH := hide hN
      rw [← hN] at hnx hBs
      have hrl := hide (show rs.length ≤ 4194304 by have := RW.stos_ge (RW.sha K) rs RW.z32; omega)
      obtain ⟨ra, rc, rfl⟩ := own_shape hJ.own
      obtain ⟨hd0, hhd0⟩ : ∃ h, h = RW.hds (RW.sha K) RW.z32 rs := ⟨_, rfl⟩
      obtain ⟨at_, hat⟩ : ∃ h, h = (RW.stos (RW.sha K) RW.z32 rs).length := ⟨_, rfl⟩
      have hhd0H := hide hhd0
      have hatH := hide hat
      rw [← hat] at hfitH hfit
      have hJbW := hide (fun W (hW : Below N w W) => (show W.heap[jb]? = some (.cells (tpc (.slice ra rs.length rc) (RW.strOf hd0) at_ [.pointer (some ⟨b, 0, none⟩), .bool false]) 85 (0, 0)) from by rw [hhd0, hat]; exact ((hnx.out W hW).2.1).b))
      clear hD hJ hl hK hlong hhd0 hat hN
      go_enter Tryz.func11, Tryz.ntmps11
      go_upto_region 6 with (go_at_call 40; refine hCo.out.mono ?_; rintro e w1 ⟨rfl, hq1⟩; have hB1H := hide (show Below N w w1 by obtain ⟨q, rfl⟩ := hq1; exact ⟨rfl, rfl, rfl, Nat.le_refl _, fun _ _ => rfl⟩); clear hq1)
      clear hCo c4
      have hrow := tpc_range (hJbW.out w1 hB1H.out)
      have hps := tp_sizeL (.slice ra rs.length rc) (RW.strOf hd0) at_
      go_upto_region 7 with (refine wpList_load_mid rfl 83 (.tmp 25) rfl jb 0 rfl [.slice ra rs.length rc, .string (RW.strOf hd0), .int .i64 (at_ : Int)] _ hrow Tryz.underlying83 rfl hps ?_)
      obtain ⟨tb, htb⟩ : ∃ t, t = w1.heap.size := ⟨_, rfl⟩
      have h2 := hide (show (w1.alloc (.cells #[.slice ra rs.length rc, .string (RW.strOf hd0), .int .i64 (at_ : Int)] 83)).heap[tb]? = some (.cells (tpc (.slice ra rs.length rc) (RW.strOf hd0) at_ []) 83 (0, 0)) ∧ Below N w (w1.alloc (.cells #[.slice ra rs.length rc, .string (RW.strOf hd0), .int .i64 (at_ : Int)] 83)) ∧ N ≤ tb from ⟨newAt htb, alloc_bel hB1H.out (Nat.le_of_eq hNH.out) _, by rw [htb, hNH.out]; exact hB1H.out.size⟩)
      rw [← htb]
      refine gen_w (fun W => W.heap[tb]? = some (.cells (tpc (.slice ra rs.length rc) (RW.strOf hd0) at_ []) 83 (0, 0)) ∧ Below N w W ∧ N ≤ tb) h2.out ?_
      clear h2 htb hrow hps hB1H
      rintro w2 ⟨ht2, hB2, htN⟩
      have c0 : w2.cell? ⟨tb, 0, none⟩ = some (.slice ra rs.length rc) := cell_of ht2 (tpc0 _ _ _ _)
      have hCl := hide (clone_any (strs_own (hnx.out w2 hB2).2.1.own) (by have := hrl.out; omega))
      have ht2H := hide ht2
      have hB2H := hide hB2
      have htNH := hide htN
      clear ht2 hB2 htN
      go_upto_region 9 with (go_at_call 41; refine hCl.out.mono ?_; rintro e w3 ⟨u, rfl, hu3, hB3⟩; obtain ⟨ua, uc, eu⟩ := own_shape hu3; subst eu; have hu3H := hide hu3; have hB3H := hide hB3; have d0 : w3.cell? ⟨tb, 0, none⟩ = some (.slice ra rs.length rc) := cell_of ((hB3.block _ (Array.getElem?_eq_some_iff.1 ht2H.out).1).trans ht2H.out) (tpc0 _ _ _ _); have f0 : w3.frozen? ⟨tb, 0, none⟩ = false := unfrozen ((hB3.block _ (Array.getElem?_eq_some_iff.1 ht2H.out).1).trans ht2H.out); clear hu3 hB3)
      obtain ⟨bb, hbb⟩ : ∃ t, t = w3.heap.size := ⟨_, rfl⟩
      have h4 := hide (show ∀ W4, W4 = (w3.setCell ⟨tb, 0, none⟩ (.slice ua rs.length uc)).alloc (.cells #[.pointer none, .slice none 0 0] 89) → ApW W4 w N tb bb (.slice ua rs.length uc) (RW.strOf hd0) at_ rs [] from by
        rintro W4 rfl
        have hb3 := (hB3H.out.block _ (Array.getElem?_eq_some_iff.1 ht2H.out).1).trans ht2H.out
        have hset : (w3.setCell ⟨tb, 0, none⟩ (.slice ua rs.length uc)).heap[tb]? = some (.cells (tpc (.slice ua rs.length uc) (RW.strOf hd0) at_ []) 83 (0, 0)) := by
          rw [← tpc_set0 (.slice ra rs.length rc)]
          exact heap_setCell_same _ _ _ _ _ _ hb3
        have hbel : Below N w (w3.setCell ⟨tb, 0, none⟩ (.slice ua rs.length uc)) := (hB2H.out.trans (hB3H.out.mono (by rw [hNH.out]; exact hB2H.out.size))).setCell (p := ⟨tb, 0, none⟩) htNH.out _
        have hsz : (w3.setCell ⟨tb, 0, none⟩ (.slice ua rs.length uc)).heap.size = w3.heap.size := by simp
        refine ⟨alloc_old _ _ hset, own_keep (own_mono hu3H.out (by rw [hNH.out]; exact hB2H.out.size)) fun g hg => ?_, ?_, alloc_bel hbel (Nat.le_of_eq hNH.out) _, htNH.out, ?_⟩
        · obtain ⟨_, h5, c, fr, hc⟩ := own_blk hu3H.out hg
          refine (Below.heap_alloc _ _ g (by rw [hsz]; exact h5)).trans (Below.heap_setCell _ _ _ _ ?_)
          exact blocks_ne hc hb3 (by decide)
        · refine .inl ⟨Nat.le_refl _, .slice none 0 0, ?_, ⟨rfl, .inl ⟨rfl, rfl⟩⟩, fun e => by cases e⟩
          rw [hbb, ← hsz]
          exact alloc_at1 _ _
        · rw [hbb, hNH.out]
          exact Nat.le_trans hB2H.out.size hB3H.out.size)
      have hbbH := hide hbb
      clear hbb
      have hsz4 : (w3.setCell ⟨tb, 0, none⟩ (.slice ua rs.length uc)).heap.size = w3.heap.size := by simp
      have hlA := hide (fun W (hW : Below N w W) => (hnx.out W hW).2.2.1)
      obtain ⟨la, lc, elv, _, _⟩ := id (hlA.out w (Below.refl _ _))
      subst elv
      obtain ⟨m, hm⟩ : ∃ m, m = l.length := ⟨_, rfl⟩
      have hmH := hide hm
      rw [← hm] at hlA hll ⊢
      clear hm
      go_wp2
      try rw [hsz4]
      rw [← hbbH.out]
      go_loopw [33] (fun i wr => ∃ (j : Nat), i = .int .i64 j ∧ j ≤ m ∧ Hid (∃ rv1, ApW wr w N tb bb rv1 (RW.strOf (RW.hds (RW.sha K) RW.z32 (rs ++ l.take j))) (RW.stos (RW.sha K) RW.z32 (rs ++ l.take j)).length (rs ++ l.take j) (RW.stos (RW.sha K) hd0 (l.take j)))) (fun i _ => m - (intOf i).toNat)
      case atStart =>
        refine ⟨0, rfl, Nat.zero_le _, .slice ua rs.length uc, ?_⟩
        have h5 := h4.out _ rfl
        rw [List.take_zero, List.append_nil, ← hhd0H.out, ← hatH.out]
        exact h5
      case round =>
        obtain ⟨j, rfl, hj, hQ⟩ := hrel
        obtain ⟨wo, hwo⟩ : ∃ wo, wo = wr := ⟨_, rfl⟩
        subst hwo
        obtain ⟨rv1, hA1⟩ := hQ.out
        have hAH := hide hA1
        clear hQ hA1 h4 c0 d0 f0 hsz4
        by_cases hjm : j < m
        · obtain ⟨r, hr⟩ : ∃ r, l[j]? = some r := ⟨_, List.getElem?_eq_getElem (by rw [← hmH.out]; exact hjm)⟩
          obtain ⟨la', lc', e', _, hcell⟩ := hlA.out wo hAH.out.bel
          cases e'
          obtain ⟨g0, o0, rfl, _, hcc⟩ := hcell.resolve_left (by rintro rfl; simp at hr)
          have e0 : wo.cell? ⟨g0, o0 + j, none⟩ = some (.string r) := by
            have := hcc j r hr 0 _ rfl
            rwa [Nat.mul_one, Nat.add_zero] at this
          have hrm := hlm.out r (List.mem_of_getElem? hr)
          have htk := hide (RW.take_snocB hr)
          have hj1000 := hide (show j ≤ 1000 by omega)
          obtain ⟨X, hX⟩ : ∃ X : ByteArray, X = ⟨(RW.sto (RW.sha K) (RW.hds (RW.sha K) RW.z32 (rs ++ l.take j)) r).toArray⟩ := ⟨_, rfl⟩
          have hlent := hide (show (l.take j).length = j by rw [List.length_take]; omega)
          have hst := hide (show (RW.stos (RW.sha K) RW.z32 (rs ++ l.take j)).length ≤ 80000000 by
            rw [RW.stos_app, List.length_append, ← hatH.out]
            have h1 := RW.stos_len_le (RW.sha_len K) (l.take j) (RW.hds (RW.sha K) RW.z32 rs) (fun q hq => hlm.out q (List.mem_of_mem_take hq))
            rw [hlent.out] at h1
            have := hfitH.out
            have := hj1000.out
            omega)
          have hbl := hide (show (RW.stos (RW.sha K) hd0 (l.take j)).length ≤ 80000000 by
            have h1 := RW.stos_len_le (RW.sha_len K) (l.take j) hd0 (fun q hq => hlm.out q (List.mem_of_mem_take hq))
            rw [hlent.out] at h1
            have := hj1000.out
            omega)
          have hTa := hide (tadd_any tb N rv1 (RW.strOf (RW.hds (RW.sha K) RW.z32 (rs ++ l.take j))) r (RW.stos (RW.sha K) RW.z32 (rs ++ l.take j)).length [] 83 (by decide) (rs ++ l.take j) (by rw [List.length_append, hlent.out]; have := hrl.out; have := hj1000.out; omega) hrm (by rw [RW.strOf_size]; exact hds_len K _) (by have := hst.out; omega) K ks hks wo ((hnx.out wo hAH.out.bel).2.2.2.1) (Nat.le_trans hAH.out.tbN (Nat.le_of_lt (Array.getElem?_eq_some_iff.1 hAH.out.b).1)) hAH.out.b hAH.out.own)
          rw [RW.strOf_list, ← hX] at hTa
          have hXl := hide (show X.data.toList = RW.sto (RW.sha K) (RW.hds (RW.sha K) RW.z32 (rs ++ l.take j)) r by rw [hX])
          have hXs := hide (show X.size ≤ 70000 by
            rw [← size_list, hXl.out, RW.sto_len _ (RW.sha_len K)]
            have h4 := RW.putI_len (r.data.toList.length : Int)
            have h5 := size_list r
            unfold RW.putS
            rw [List.length_append]
            omega)
          have hnew := hide (show ∀ (W : World) (rv2 : Value) (t : List UInt8), ApW W w N tb bb rv2 ⟨(RW.chn (RW.sha K) (RW.hds (RW.sha K) RW.z32 (rs ++ l.take j)) r).toArray⟩ ((RW.stos (RW.sha K) RW.z32 (rs ++ l.take j)).length + (RW.sto (RW.sha K) (RW.hds (RW.sha K) RW.z32 (rs ++ l.take j)) r).length) ((rs ++ l.take j) ++ [r]) (RW.stos (RW.sha K) hd0 (l.take j) ++ X.data.toList) → ApW W w N tb bb rv2 (RW.strOf (RW.hds (RW.sha K) RW.z32 (rs ++ l.take (j + 1)))) (RW.stos (RW.sha K) RW.z32 (rs ++ l.take (j + 1))).length (rs ++ l.take (j + 1)) (RW.stos (RW.sha K) hd0 (l.take (j + 1))) from by
            intro W rv2 t h
            have e1 : RW.hds (RW.sha K) hd0 (l.take j) = RW.hds (RW.sha K) RW.z32 (rs ++ l.take j) := by rw [RW.hds_app, hhd0H.out]
            rw [htk.out, ← List.append_assoc, RW.hds_snoc, RW.stos_snoc, RW.stos_snoc, List.length_append, e1, ← hXl.out]
            rw [← hXl.out] at h
            exact h)
          clear hr hcc hcell hX hrm
          go_wp2_with (first
            | (go_at_call 43; refine hTa.out.mono ?_; rintro e w5 ⟨rfl, rv2, hT5⟩; have hA5 := hide (hAH.out.add hT5); clear hT5)
            | (go_at_call 42; refine (writestring bb bb _ X w5 hA5.out.bl (by rw [Lib.byteCells_length]; have := hbl.out; have := hXs.out; omega) (by obtain ⟨cs, hcs⟩ := bl_block hA5.out.bl; exact Nat.le_of_lt (Array.getElem?_eq_some_iff.1 hcs).1)).mono ?_; rintro e w6 ⟨rfl, hb6, hB6, hk6⟩; have hA6 := hide (hA5.out.put (t' := RW.stos (RW.sha K) hd0 (l.take j) ++ X.data.toList) (.inr (by rw [byte_app, ← byte_strCells X.data.toList]; exact hb6)) hB6 hk6); clear hb6 hB6 hk6))
          go_roundw
          case rel => exact ⟨j + 1, by go_num, by omega, rv2, hnew.out _ _ [] hA6.out⟩
          case measure => simp [intOf]; omega
        · obtain rfl : m = j := by omega
          have htl := hide (show l.take m = l by rw [hmH.out]; exact List.take_length)
          obtain ⟨O, hO⟩ : ∃ O, O = RW.stos (RW.sha K) hd0 l := ⟨_, rfl⟩
          have hAl := hide (show ApW wo w N tb bb rv1 (RW.strOf (RW.hds (RW.sha K) RW.z32 (rs ++ l))) (RW.stos (RW.sha K) RW.z32 (rs ++ l)).length (rs ++ l) O from by
            have h := hAH.out
            rw [htl.out, ← hO] at h
            exact h)
          have hOH := hide hO
          have hOl := hide (show O.length ≤ 80000000 by
            rw [hO]
            have h1 := RW.stos_len_le (RW.sha_len K) l hd0 hlm.out
            have h2 : l.length ≤ 1000 := by rw [← hmH.out]; exact hll
            omega)
          clear hO hAH
          obtain ⟨X, hX⟩ : ∃ X : ByteArray, X = RW.strOf O := ⟨_, rfl⟩
          have hXs : X.size = O.length := by rw [hX, RW.strOf_size]
          have hfit0 := hfitH.out
          obtain ⟨q, hq⟩ : ∃ q : Nat, (n : Int) - (at_ : Int) = (q : Int) := ⟨n - at_, by omega⟩
          have hbbl := hide (show bb ≤ wo.heap.size by obtain ⟨cs, hcs⟩ := bl_block hAl.out.bl; exact Nat.le_of_lt (Array.getElem?_eq_some_iff.1 hcs).1)
          have hS := hide (show Calls Tryz.prog 44 #[.pointer (some ⟨bb, 0, none⟩)] wo fun e w' => e = .returned (.string X) ∧ Below bb wo w' ∧ (O ≠ [] → RW.BKept 5 bb wo w') from by
            rw [hX]
            by_cases h0 : O = []
            · refine (SH.Builder_String_any bb bb O wo hAl.out.bl hbbl.out).mono ?_
              rintro e w' ⟨rfl, h⟩
              exact ⟨rfl, h, fun h1 => absurd h0 h1⟩
            · refine (bstring bb bb O wo hAl.out.bl h0).mono ?_
              rintro e w' ⟨rfl, h, h1⟩
              exact ⟨rfl, h, fun _ => h1⟩)
          have hRm := hide (fun W (hW : Below N w W) => (show Calls Tryz.prog 21 #[.pointer (some ⟨jb, 0, none⟩)] W fun e w' => e = .returned (.int .i64 (q : Int)) ∧ ∃ k, w' = W.drewN k from by
            have h := hnx.out W hW
            refine (room_any B b n db vb jb pv _ S rs false (by rw [← hatH.out]; have := hfitH.out; omega) W h.1 h.2.1).mono ?_
            rintro e w' ⟨rfl, hk⟩
            exact ⟨by rw [← hatH.out, hq], hk⟩))
          have hXH := hide hX
          have hqH := hide hq
          have hpH := hide hp
          clear hX hq htl hfit hfit0 hp
          by_cases hfull : q < O.length
          · have hcm0 : q < X.size := by omega
            have hcmp : decide (q < X.size) = true := decide_eq_true hcm0
            have hR := hide (RW.japp_full (H := RW.sha K) (n := n) (S := S) (rs := rs) (l := l) hlongH.out (by rw [← hatH.out, ← hhd0H.out, ← hOH.out]; have := hqH.out; omega))
            clear hfull hXs
            go_wp2_with (first
              | (go_at_call 44; refine hS.out.mono ?_; rintro e w7 ⟨rfl, hB7, hk7⟩; have hB7H := hide (hAl.out.bel.trans (hB7.mono hAl.out.bbN)); have hk7H := hide hk7; clear hB7 hk7)
              | (go_at_call 21; refine (hRm.out w7 hB7H.out).mono ?_; rintro e w8 ⟨rfl, hk8⟩; have hB8H := hide (show Below N w w8 from by obtain ⟨k, rfl⟩ := hk8; exact hB7H.out.trans ⟨rfl, rfl, rfl, Nat.le_refl _, fun _ _ => rfl⟩); have hk8H := hide hk8; clear hk8))
            go_ret
            unfold AppOut
            rw [hR.out]
            obtain ⟨q1, q2, _, _, q5, q6⟩ := hnx.out _ hB8H.out
            exact ⟨rfl, ⟨pv, _, q1, q2⟩, q5, q6⟩
          · have hcm0 : ¬ (q < X.size) := by omega
            have hcmp : decide (q < X.size) = false := decide_eq_false hcm0
            by_cases hO0 : O = []
            · have hemp : X.toList.isEmpty = true := RW.emp_yes0 X (by rw [hXH.out, hO0]; rfl)
              have hR := hide (show RW.japp (RW.sha K) n S rs false l = (0, rs, false, S) by
                have h1 := RW.stos_ge (RW.sha K) l hd0
                rw [← hOH.out, hO0] at h1
                have h2 : l = [] := List.eq_nil_of_length_eq_zero (Nat.le_zero.1 h1)
                rw [h2]
                exact RW.japp_none)
              clear hfull hXs hO0
              go_wp2_with (first
                | (go_at_call 44; refine hS.out.mono ?_; rintro e w7 ⟨rfl, hB7, hk7⟩; have hB7H := hide (hAl.out.bel.trans (hB7.mono hAl.out.bbN)); have hk7H := hide hk7; clear hB7 hk7)
                | (go_at_call 21; refine (hRm.out w7 hB7H.out).mono ?_; rintro e w8 ⟨rfl, hk8⟩; have hB8H := hide (show Below N w w8 from by obtain ⟨k, rfl⟩ := hk8; exact hB7H.out.trans ⟨rfl, rfl, rfl, Nat.le_refl _, fun _ _ => rfl⟩); have hk8H := hide hk8; clear hk8))
              go_ret
              unfold AppOut
              rw [hR.out]
              obtain ⟨q1, q2, _, _, q5, q6⟩ := hnx.out _ hB8H.out
              exact ⟨rfl, ⟨pv, _, q1, q2⟩, q5, q6⟩
            · have hemp : X.toList.isEmpty = false := RW.emp_no0 X (by rw [hXH.out, RW.strOf_list]; exact hO0)
              have hX1 := hide (show 1 ≤ X.size by rw [hXs]; cases O with | nil => exact absurd rfl hO0 | cons a t => simp)
              have hl0 := hide (show l ≠ [] from fun e => hO0 (by rw [hOH.out, e]; rfl))
              have hff := hide (show ¬ (n - (RW.stos (RW.sha K) RW.z32 rs).length < (RW.stos (RW.sha K) (RW.hds (RW.sha K) RW.z32 rs) l).length) by rw [← hatH.out, ← hhd0H.out, ← hOH.out]; have := hqH.out; omega)
              have hO0H := hide hO0
              have hOql := hide (show O.length ≤ 4194304 by have := hqH.out; omega)
              have hXsH := hide hXs
              clear hfull hXs hO0
              go_upto_region 19 with (first
                | (go_at_call 44; refine hS.out.mono ?_; rintro e w7 ⟨rfl, hB7, hk7⟩; have hB7H := hide (hAl.out.bel.trans (hB7.mono hAl.out.bbN)); have hk7H := hide hk7; clear hB7 hk7)
                | (go_at_call 21; refine (hRm.out w7 hB7H.out).mono ?_; rintro e w8 ⟨rfl, hk8⟩; have hB8H := hide (show Below N w w8 from by obtain ⟨k, rfl⟩ := hk8; exact hB7H.out.trans ⟨rfl, rfl, rfl, Nat.le_refl _, fun _ _ => rfl⟩); have hk8H := hide hk8; clear hk8))
              have hTp8 := hide (show TpW w8 N tb rv1 (RW.strOf (RW.hds (RW.sha K) RW.z32 (rs ++ l))) (RW.stos (RW.sha K) RW.z32 (rs ++ l)).length (rs ++ l) from by
                obtain ⟨k, rfl⟩ := hk8H.out
                exact (hAl.out.kept (hk7H.out hO0H.out)).next ⟨rfl, rfl, rfl, Nat.le_refl _, fun _ _ => rfl⟩)
              have hD8 := hide ((hnx.out w8 hB8H.out).1)
              have hJ8 := hide ((hnx.out w8 hB8H.out).2.1)
              have hT8 := hide ((hnx.out w8 hB8H.out).2.2.2.2)
              have c2W := hide (fun W (hW : Below w8.heap.size w8 W) => (show W.cell? ⟨jb, 2, none⟩ = some (.int .i64 (at_ : Int)) from by rw [hatH.out]; exact cell_of (hJ8.out.next hW).b (tpc2 _ _ _ _)))
              have c3W := hide (fun W (hW : Below w8.heap.size w8 W) => (show W.cell? ⟨jb, 3, none⟩ = some (.pointer (some ⟨b, 0, none⟩)) from (hJ8.out.next hW).disk))
              have eX1 := hide (show X.extract 1 X.size = RW.strOf (O.drop 1) from by
                refine ByteArray.ext (Array.ext' ?_)
                rw [RW.extract_eq X 1 X.size (Nat.le_refl _), hXH.out, RW.strOf_list, RW.strOf_list, RW.strOf_size, ← List.length_drop, List.take_length])
              have eX2 := hide (show X.extract 0 1 = RW.strOf (O.take 1) from by
                refine ByteArray.ext (Array.ext' ?_)
                rw [RW.extract_eq X 0 1 hX1.out, hXH.out, RW.strOf_list, RW.strOf_list, List.drop_zero])
              obtain ⟨E, hE⟩ : ∃ E : Int × RW.Dk, E = (if (RW.wrsy n S (at_ + 1) (O.drop 1)).1 ≠ 0 then RW.wrsy n S (at_ + 1) (O.drop 1) else RW.wrsy n (RW.wrsy n S (at_ + 1) (O.drop 1)).2 at_ (O.take 1)) := ⟨_, rfl⟩
              have hEH := hide hE
              have hJw := hide (RW.japp_wr (H := RW.sha K) (n := n) (S := S) (rs := rs) (l := l) hlongH.out hff.out hl0.out (R := E) (by rw [← hatH.out, ← hhd0H.out, ← hOH.out]; exact hE))
              clear hE hk8H hk7H hB7H hAl hS hRm hcmp hcm0 hemp
              refine wp_region_k (fun h W => 30 ∈ h ∨ Below w8.heap.size w8 W) (fun _ => True) [9, 23, 29, 30] (.op 0 (.op 1 (.op 2 (.op 3 (.op 4 (.op 5 (.op 6 (.op 7 (.op 8 (.op 10 (.op 11 (.op 12 (.op 13 (.op 14 (.op 15 (.op 16 (.op 17 (.op 18 (.op 19 (.op 20 (.op 21 (.op 22 (.op 24 (.op 25 (.op 26 (.op 27 (.op 28 (.op 9 (.op 23 (.op 29 (.op 30 (.op 31 .nil)))))))))))))))))))))))))))))))) (by kernel_rfl) (by kernel_rfl) (by rfl) (by kernel_rfl) (.inr (Below.refl w8.heap.size w8).drew) trivial ?_
              refine k_val (.pointer (some ⟨jb, 0, none⟩)) (by apply opN; repeat' (first | apply OpAt.z | apply OpAt.s)) (by rfl) (by rfl) (fun _ W hS => op_mv rfl rfl) ?_
              simp only [Act.put, List.setIfInBounds_toArray, List.set_cons_zero, List.set_cons_succ]
              refine k_val (.pointer (some ⟨jb, 0, none⟩)) (by apply opN; repeat' (first | apply OpAt.z | apply OpAt.s)) (by rfl) (by rfl) (fun _ W hS => op_mv rfl rfl) ?_
              simp only [Act.put, List.setIfInBounds_toArray, List.set_cons_zero, List.set_cons_succ]
              refine k_val (.pointer (some ⟨jb, 0, none⟩)) (by apply opN; repeat' (first | apply OpAt.z | apply OpAt.s)) (by rfl) (by rfl) (fun _ W hS => op_nc rfl rfl) ?_
              simp only [Act.put, List.setIfInBounds_toArray, List.set_cons_zero, List.set_cons_succ]
              refine k_val (.pointer (some ⟨jb, 0, none⟩)) (by apply opN; repeat' (first | apply OpAt.z | apply OpAt.s)) (by rfl) (by rfl) (fun _ W hS => op_fa rfl rfl (fa_jt W)) ?_
              simp only [Act.put, List.setIfInBounds_toArray, List.set_cons_zero, List.set_cons_succ]
              refine k_val (.pointer (some ⟨jb, 2, none⟩)) (by apply opN; repeat' (first | apply OpAt.z | apply OpAt.s)) (by rfl) (by rfl) (fun _ W hS => op_fa rfl rfl (fa_tp2 W)) ?_
              simp only [Act.put, List.setIfInBounds_toArray, List.set_cons_zero, List.set_cons_succ]
              refine k_bef 30 (.int .i64 (at_ : Int)) (by apply opN; repeat' (first | apply OpAt.z | apply OpAt.s)) (by rfl) (by rfl) (by decide +kernel) (by rfl) (fun _ W hg hS => op_ld rfl rfl (jint_ld (c2W.out W (hS.resolve_left hg)))) ?_
              simp only [Act.put, List.setIfInBounds_toArray, List.set_cons_zero, List.set_cons_succ]
              refine k_val (.int .i64 ((at_ + 1 : Nat) : Int)) (by apply opN; repeat' (first | apply OpAt.z | apply OpAt.s)) (by rfl) (by rfl) (fun _ W hS => op_addj rfl rfl rfl (by omega) (by have := hfitH.out; omega)) ?_
              simp only [Act.put, List.setIfInBounds_toArray, List.set_cons_zero, List.set_cons_succ]
              refine k_val (.string X) (by apply opN; repeat' (first | apply OpAt.z | apply OpAt.s)) (by rfl) (by rfl) (fun _ W hS => op_mv rfl rfl) ?_
              simp only [Act.put, List.setIfInBounds_toArray, List.set_cons_zero, List.set_cons_succ]
              refine k_val (.string (RW.strOf (O.drop 1))) (by apply opN; repeat' (first | apply OpAt.z | apply OpAt.s)) (by rfl) (by rfl) (fun _ W hS => (op_sl1 rfl rfl rfl hX1.out).trans (by rw [eX1.out])) ?_
              simp only [Act.put, List.setIfInBounds_toArray, List.set_cons_zero, List.set_cons_succ]
              refine k_val (.pointer (some ⟨jb, 0, none⟩)) (by apply opN; repeat' (first | apply OpAt.z | apply OpAt.s)) (by rfl) (by rfl) (fun _ W hS => op_mv rfl rfl) ?_
              simp only [Act.put, List.setIfInBounds_toArray, List.set_cons_zero, List.set_cons_succ]
              refine k_val (.pointer (some ⟨jb, 0, none⟩)) (by apply opN; repeat' (first | apply OpAt.z | apply OpAt.s)) (by rfl) (by rfl) (fun _ W hS => op_nc rfl rfl) ?_
              simp only [Act.put, List.setIfInBounds_toArray, List.set_cons_zero, List.set_cons_succ]
              refine k_val (.pointer (some ⟨jb, 3, none⟩)) (by apply opN; repeat' (first | apply OpAt.z | apply OpAt.s)) (by rfl) (by rfl) (fun _ W hS => op_fa rfl rfl (fa_jd W)) ?_
              simp only [Act.put, List.setIfInBounds_toArray, List.set_cons_zero, List.set_cons_succ]
              refine k_bef 30 (.pointer (some ⟨b, 0, none⟩)) (by apply opN; repeat' (first | apply OpAt.z | apply OpAt.s)) (by rfl) (by rfl) (by decide +kernel) (by rfl) (fun _ W hg hS => op_ld rfl rfl (ptr_ldd (c3W.out W (hS.resolve_left hg)))) ?_
              simp only [Act.put, List.setIfInBounds_toArray, List.set_cons_zero, List.set_cons_succ]
              refine k_val (scl b) (by apply opN; repeat' (first | apply OpAt.z | apply OpAt.s)) (by rfl) (by rfl) (fun _ W hS => op_mfs rfl rfl) ?_
              simp only [Act.put, List.setIfInBounds_toArray, List.set_cons_zero, List.set_cons_succ]
              refine k_val (.pointer (some ⟨jb, 0, none⟩)) (by apply opN; repeat' (first | apply OpAt.z | apply OpAt.s)) (by rfl) (by rfl) (fun _ W hS => op_mv rfl rfl) ?_
              simp only [Act.put, List.setIfInBounds_toArray, List.set_cons_zero, List.set_cons_succ]
              refine k_val (.pointer (some ⟨jb, 0, none⟩)) (by apply opN; repeat' (first | apply OpAt.z | apply OpAt.s)) (by rfl) (by rfl) (fun _ W hS => op_mv rfl rfl) ?_
              simp only [Act.put, List.setIfInBounds_toArray, List.set_cons_zero, List.set_cons_succ]
              refine k_val (.pointer (some ⟨jb, 0, none⟩)) (by apply opN; repeat' (first | apply OpAt.z | apply OpAt.s)) (by rfl) (by rfl) (fun _ W hS => op_nc rfl rfl) ?_
              simp only [Act.put, List.setIfInBounds_toArray, List.set_cons_zero, List.set_cons_succ]
              refine k_val (.pointer (some ⟨jb, 0, none⟩)) (by apply opN; repeat' (first | apply OpAt.z | apply OpAt.s)) (by rfl) (by rfl) (fun _ W hS => op_fa rfl rfl (fa_jt W)) ?_
              simp only [Act.put, List.setIfInBounds_toArray, List.set_cons_zero, List.set_cons_succ]
              refine k_val (.pointer (some ⟨jb, 2, none⟩)) (by apply opN; repeat' (first | apply OpAt.z | apply OpAt.s)) (by rfl) (by rfl) (fun _ W hS => op_fa rfl rfl (fa_tp2 W)) ?_
              simp only [Act.put, List.setIfInBounds_toArray, List.set_cons_zero, List.set_cons_succ]
              refine k_bef 30 (.int .i64 (at_ : Int)) (by apply opN; repeat' (first | apply OpAt.z | apply OpAt.s)) (by rfl) (by rfl) (by decide +kernel) (by rfl) (fun _ W hg hS => op_ld rfl rfl (jint_ld (c2W.out W (hS.resolve_left hg)))) ?_
              simp only [Act.put, List.setIfInBounds_toArray, List.set_cons_zero, List.set_cons_succ]
              refine k_val (.string X) (by apply opN; repeat' (first | apply OpAt.z | apply OpAt.s)) (by rfl) (by rfl) (fun _ W hS => op_mv rfl rfl) ?_
              simp only [Act.put, List.setIfInBounds_toArray, List.set_cons_zero, List.set_cons_succ]
              refine k_val (.string (RW.strOf (O.take 1))) (by apply opN; repeat' (first | apply OpAt.z | apply OpAt.s)) (by rfl) (by rfl) (fun _ W hS => (op_sl01 rfl rfl rfl hX1.out).trans (by rw [eX2.out])) ?_
              simp only [Act.put, List.setIfInBounds_toArray, List.set_cons_zero, List.set_cons_succ]
              refine k_val (.pointer (some ⟨jb, 0, none⟩)) (by apply opN; repeat' (first | apply OpAt.z | apply OpAt.s)) (by rfl) (by rfl) (fun _ W hS => op_mv rfl rfl) ?_
              simp only [Act.put, List.setIfInBounds_toArray, List.set_cons_zero, List.set_cons_succ]
              refine k_val (.pointer (some ⟨jb, 0, none⟩)) (by apply opN; repeat' (first | apply OpAt.z | apply OpAt.s)) (by rfl) (by rfl) (fun _ W hS => op_nc rfl rfl) ?_
              simp only [Act.put, List.setIfInBounds_toArray, List.set_cons_zero, List.set_cons_succ]
              refine k_val (.pointer (some ⟨jb, 3, none⟩)) (by apply opN; repeat' (first | apply OpAt.z | apply OpAt.s)) (by rfl) (by rfl) (fun _ W hS => op_fa rfl rfl (fa_jd W)) ?_
              simp only [Act.put, List.setIfInBounds_toArray, List.set_cons_zero, List.set_cons_succ]
              refine k_bef 30 (.pointer (some ⟨b, 0, none⟩)) (by apply opN; repeat' (first | apply OpAt.z | apply OpAt.s)) (by rfl) (by rfl) (by decide +kernel) (by rfl) (fun _ W hg hS => op_ld rfl rfl (ptr_ldd (c3W.out W (hS.resolve_left hg)))) ?_
              simp only [Act.put, List.setIfInBounds_toArray, List.set_cons_zero, List.set_cons_succ]
              refine k_val (scl b) (by apply opN; repeat' (first | apply OpAt.z | apply OpAt.s)) (by rfl) (by rfl) (fun _ W hS => op_mfs rfl rfl) ?_
              simp only [Act.put, List.setIfInBounds_toArray, List.set_cons_zero, List.set_cons_succ]
              refine k_step (fun K' u => ∃ p, u = wcl p ∧ K' = fun W => WrC W p jb ((at_ + 1 : Nat) : Int) (RW.strOf (O.drop 1))) (by apply opN; repeat' (first | apply OpAt.z | apply OpAt.s)) (by rfl) (by rfl) (by rfl) (fun W hCW hK => ?_) ?_
              · refine op_x3 rfl rfl rfl rfl rfl cf_writing ?_
                refine (writing_any jb ((at_ + 1 : Nat) : Int) (RW.strOf (O.drop 1)) W).mono ?_
                rintro e W' ⟨rfl, rfl⟩
                obtain ⟨h4, h5⟩ := WrC.new W jb ((at_ + 1 : Nat) : Int) (RW.strOf (O.drop 1))
                exact ⟨_, rfl, .inr ((hCW.resolve_left (by decide)).trans (h5.mono (hCW.resolve_left (by decide)).size)), _, h4, W.heap.size, rfl, rfl⟩
              rintro _ _ ⟨p, rfl, rfl⟩
              simp only [Act.put, List.setIfInBounds_toArray, List.set_cons_zero, List.set_cons_succ]
              refine k_step (fun K' u => ∃ p2, u = wcl p2 ∧ K' = fun W => WrC W p jb ((at_ + 1 : Nat) : Int) (RW.strOf (O.drop 1)) ∧ WrC W p2 jb (at_ : Int) (RW.strOf (O.take 1))) (by apply opN; repeat' (first | apply OpAt.z | apply OpAt.s)) (by rfl) (by rfl) (by rfl) (fun W hCW hK => ?_) ?_
              · refine op_x3 rfl rfl rfl rfl rfl cf_writing ?_
                refine (writing_any jb (at_ : Int) (RW.strOf (O.take 1)) W).mono ?_
                rintro e W' ⟨rfl, rfl⟩
                obtain ⟨h4, h5⟩ := WrC.new W jb (at_ : Int) (RW.strOf (O.take 1))
                exact ⟨_, rfl, .inr ((hCW.resolve_left (by decide)).trans (h5.mono (hCW.resolve_left (by decide)).size)), _, ⟨hK.next h5, h4⟩, W.heap.size, rfl, rfl⟩
              rintro _ _ ⟨p2, rfl, rfl⟩
              simp only [Act.put, List.setIfInBounds_toArray, List.set_cons_zero, List.set_cons_succ]
              refine k_step (fun K' u => ∃ g4, u = .slice (some ⟨g4, 0, none⟩) 4 4 ∧ K' = fun W => WrC W p jb ((at_ + 1 : Nat) : Int) (RW.strOf (O.drop 1)) ∧ WrC W p2 jb (at_ : Int) (RW.strOf (O.take 1)) ∧ W.heap[g4]? = some (.cells #[wcl p, scl b, wcl p2, scl b] 96 (0, 0))) (by apply opN; repeat' (first | apply OpAt.z | apply OpAt.s)) (by rfl) (by rfl) (by rfl) (fun W hCW hK => ?_) ?_
              · exact xup_val (op_bf4 rfl rfl rfl rfl rfl) ⟨.inr (alloc_bel (hCW.resolve_left (by decide)) (Nat.le_refl _) _), _, ⟨hK.1.next (alloc_bel (Below.refl _ _) (Nat.le_refl _) _), hK.2.next (alloc_bel (Below.refl _ _) (Nat.le_refl _) _), alloc_at1 W _⟩, W.heap.size, rfl, rfl⟩
              rintro _ _ ⟨g4, rfl, rfl⟩
              simp only [Act.put, List.setIfInBounds_toArray, List.set_cons_zero, List.set_cons_succ]
              refine k_step (fun K' u => u = .int .i64 E.1 ∧ K' = fun W => ∃ pv', DiskAt W B b n db vb pv' E.2 ∧ JrAt (RW.sha K) W B jb b (.slice ra rs.length rc) rs false ∧ WrC W p jb ((at_ + 1 : Nat) : Int) (RW.strOf (O.drop 1)) ∧ WrC W p2 jb (at_ : Int) (RW.strOf (O.take 1)) ∧ W.heap[g4]? = some (.cells #[wcl p, scl b, wcl p2, scl b] 96 (0, 0)) ∧ TpW W N tb rv1 (RW.strOf (RW.hds (RW.sha K) RW.z32 (rs ++ l))) (RW.stos (RW.sha K) RW.z32 (rs ++ l)).length (rs ++ l) ∧ Tch b db vb w8 W ∧ Below B w8 W) (by apply opN; repeat' (first | apply OpAt.z | apply OpAt.s)) (by rfl) (by rfl) (by rfl) (fun W hCW hK => ?_) ?_
              · have hb9 := hCW.resolve_left (by decide)
                have h0 : (fun W => JrAt (RW.sha K) W B jb b (.slice ra rs.length rc) rs false ∧ WrC W p jb ((at_ + 1 : Nat) : Int) (RW.strOf (O.drop 1)) ∧ WrC W p2 jb (at_ : Int) (RW.strOf (O.take 1)) ∧ W.heap[g4]? = some (.cells #[wcl p, scl b, wcl p2, scl b] 96 (0, 0)) ∧ TpW W N tb rv1 (RW.strOf (RW.hds (RW.sha K) RW.z32 (rs ++ l))) (RW.stos (RW.sha K) RW.z32 (rs ++ l)).length (rs ++ l) ∧ Tch b db vb w8 W ∧ Below B w8 W) W := ⟨hJ8.out.next hb9, hK.1, hK.2.1, hK.2.2, hTp8.out.next hb9, Tch.of_below hb9, hb9.mono (Nat.le_trans hD8.out.hb (Nat.le_of_lt hD8.out.lt.1))⟩
                refine op_x1 rfl rfl rfl cf_first ?_
                refine (first4 (H := RW.sha K) (rv := .slice ra rs.length rc) (rs := rs) (br := false) (z := O.drop 1) (z2 := O.take 1) (o := at_ + 1) (o2 := at_) (p := p) (p2 := p2) (Fr := fun W => JrAt (RW.sha K) W B jb b (.slice ra rs.length rc) rs false ∧ WrC W p jb ((at_ + 1 : Nat) : Int) (RW.strOf (O.drop 1)) ∧ WrC W p2 jb (at_ : Int) (RW.strOf (O.take 1)) ∧ W.heap[g4]? = some (.cells #[wcl p, scl b, wcl p2, scl b] 96 (0, 0)) ∧ TpW W N tb rv1 (RW.strOf (RW.hds (RW.sha K) RW.z32 (rs ++ l))) (RW.stos (RW.sha K) RW.z32 (rs ++ l)).length (rs ++ l) ∧ Tch b db vb w8 W ∧ Below B w8 W) (fun W1 W2 pv1 S1 hd1 hf1 ht1 hbb1 => ⟨hf1.1.tch hd1 ht1, hf1.2.1.tch hd1 ht1, hf1.2.2.1.tch hd1 ht1, tch_keep hf1.2.2.2.1 hd1 ht1 (by decide), hf1.2.2.2.2.1.tch hd1 ht1, hf1.2.2.2.2.2.1.trans ht1, hf1.2.2.2.2.2.2.trans hbb1⟩) (fun W1 hf1 => ⟨hf1.1, hf1.2.1⟩) (fun W1 hf1 => ⟨hf1.1, hf1.2.2.1⟩) (fun W1 hf1 => hf1.2.2.2.1) hpH.out (by rw [List.length_drop]; have := hOql.out; omega) (by rw [List.length_take]; omega) (hD8.out.next hb9) h0).mono ?_
                rintro e W' ⟨R, hR, rfl, h4⟩
                rw [← hEH.out] at hR
                subst hR
                exact ⟨_, rfl, .inl (by decide), _, h4, rfl, rfl⟩
              rintro _ _ ⟨rfl, rfl⟩
              simp only [Act.put, List.setIfInBounds_toArray, List.set_cons_zero, List.set_cons_succ]
              refine k_val (.int .i64 E.1) (by apply opN; repeat' (first | apply OpAt.z | apply OpAt.s)) (by rfl) (by rfl) (fun _ W hS => op_asg rfl rfl) ?_
              simp only [Act.put, List.setIfInBounds_toArray, List.set_cons_zero, List.set_cons_succ]
              refine k_nil ?_
              intro W hCW hK
              obtain ⟨pv', hD9, hJ9, _, _, _, hTp9, hT9, hB9⟩ := hK
              have hD9H := hide hD9
              have hJ9H := hide hJ9
              have hTp9H := hide hTp9
              have hT9H := hide (hT8.out.1.trans (.of_tch hT9))
              have hB9H := hide (hT8.out.2.trans hB9)
              clear hCW hD9 hJ9 hTp9 hT9 hB9 hD8 hT8 hJ8 c3W c2W
              obtain ⟨E1, E2⟩ := E
              have hBW := hide (show B ≤ W.heap.size from Nat.le_trans hD9H.out.hb (Nat.le_of_lt hD9H.out.lt.1))
              by_cases hE0 : E1 = 0
              · subst hE0
                have hJ := hide (show RW.japp (RW.sha K) n S rs false l = (0, rs ++ l, false, E2) by rw [hJw.out, if_neg (by simp)])
                have hj5 := hide (jr_next hJ9H.out hTp9H.out hBs.out)
                have hch := hide (setCells_chg W jb 0 (tpc rv1 (RW.strOf (RW.hds (RW.sha K) RW.z32 (rs ++ l))) (RW.stos (RW.sha K) RW.z32 (rs ++ l)).length []).toList)
                have h10 := hide (show ∃ pv' rv', DiskAt (W.setCells jb 0 (tpc rv1 (RW.strOf (RW.hds (RW.sha K) RW.z32 (rs ++ l))) (RW.stos (RW.sha K) RW.z32 (rs ++ l)).length []).toList) B b n db vb pv' E2 ∧ JrAt (RW.sha K) (W.setCells jb 0 (tpc rv1 (RW.strOf (RW.hds (RW.sha K) RW.z32 (rs ++ l))) (RW.stos (RW.sha K) RW.z32 (rs ++ l)).length []).toList) B jb b rv' (rs ++ l) false ∧ TchJ jb b db vb w (W.setCells jb 0 (tpc rv1 (RW.strOf (RW.hds (RW.sha K) RW.z32 (rs ++ l))) (RW.stos (RW.sha K) RW.z32 (rs ++ l)).length []).toList) ∧ Below B w (W.setCells jb 0 (tpc rv1 (RW.strOf (RW.hds (RW.sha K) RW.z32 (rs ++ l))) (RW.stos (RW.sha K) RW.z32 (rs ++ l)).length []).toList) from
                  ⟨pv', rv1, disk_chg hD9H.out hJ9H.out.b hch.out, hj5.out, hT9H.out.trans (.of_chg hch.out), hB9H.out.trans (hch.out.below hJ9H.out.hb hBW.out)⟩)
                have hrw := hTp9H.out.b
                have hth := tpc_there (u := rv1) (h' := RW.strOf (RW.hds (RW.sha K) RW.z32 (rs ++ l))) (n' := (RW.stos (RW.sha K) RW.z32 (rs ++ l)).length) hJ9H.out.b
                have hps := tp_size rv1 (RW.strOf (RW.hds (RW.sha K) RW.z32 (rs ++ l))) (RW.stos (RW.sha K) RW.z32 (rs ++ l)).length
                obtain ⟨ru, rw1, erv⟩ := own_shape hTp9H.out.own
                have hone := tpc_one rv1 (RW.strOf (RW.hds (RW.sha K) RW.z32 (rs ++ l))) (RW.stos (RW.sha K) RW.z32 (rs ++ l)).length (by rw [erv]; rfl)
                clear hJw hEH erv hj5 hch hJ9H hD9H hT9H hB9H hTp9H
                go_wp2_with (first
                  | (refine wpList_load_row rfl 83 (.tmp 6) rfl tb rfl 83 _ (0, 0) _ hrw Tryz.underlying83 rfl hps ?_)
                  | (refine wpList_store_mid rfl 83 (.tmp 91) (.tmp 89) rfl jb 0 (tpc rv1 (RW.strOf (RW.hds (RW.sha K) RW.z32 (rs ++ l))) (RW.stos (RW.sha K) RW.z32 (rs ++ l)).length []) rfl rfl hth hps hone ?_; refine gen_wlJ (fun W => ∃ pv' rv', DiskAt W B b n db vb pv' E2 ∧ JrAt (RW.sha K) W B jb b rv' (rs ++ l) false ∧ TchJ jb b db vb w W ∧ Below B w W) h10.out ?_; clear h10 hth hrw; rintro w10 h11'; have h11 := hide h11'; clear h11'))
                go_ret
                obtain ⟨pv1, rv2, q1, q2, q3, q4⟩ := h11.out
                unfold AppOut
                rw [hJ.out]
                exact ⟨rfl, ⟨pv1, rv2, q1, q2⟩, q3, q4⟩
              · have hJ := hide (show RW.japp (RW.sha K) n S rs false l = (E1, rs, true, E2) by rw [hJw.out, if_pos hE0])
                have hne : (E1 != 0) = true := by simp [hE0]
                have hjb := hide (jr_broken hJ9H.out)
                have c4 : W.cell? ⟨jb, 4, none⟩ = some (.bool false) := hJ9H.out.brk
                have f4 : W.frozen? ⟨jb, 4, none⟩ = false := unfrozen hJ9H.out.b
                clear hJw hEH hE0
                go_wp2
                go_ret
                unfold AppOut
                rw [hJ.out]
                exact ⟨rfl, ⟨pv', _, disk_chg hD9H.out hJ9H.out.b hjb.out.2, hjb.out.1⟩, hT9H.out.trans (.of_chg hjb.out.2), hB9H.out.trans (hjb.out.2.below hJ9H.out.hb hBW.out)⟩
end Go.Proofs.YtllbphanfahkkaaGreatDoor

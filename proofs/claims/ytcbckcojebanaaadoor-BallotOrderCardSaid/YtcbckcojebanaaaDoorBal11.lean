/-
  Package ballot: input.number and input.text: what they read, and where the reading stands behind it; the input's block alone is written.
-/
import Derived.Test.YtcbckcojebanaaaDoorMC
import Derived.Test.YtcbckcojebanaaaDoorMA
namespace Go.Proofs.YtcbckcojebanaaaDoor
open Go.RowKit
namespace RW
/-- an input's cells -/
def inC (s : ByteArray) (p : Nat × Bool) : Array Value := #[.string s, .int .i64 p.1, .bool p.2]
/-- a number is read: what it is, where the reading stands, whether it failed -/
def rdI (l : List UInt8) (p : Nat × Bool) : Int × Nat × Bool := match p.2 with
  | true => (0, p)
  | false => match decI (l.drop p.1) with
    | none => (0, 0, true)
    | some (n, k) => (n, p.1 + k, false)
/-- a string is read -/
def rdS (l : List UInt8) (p : Nat × Bool) : List UInt8 × Nat × Bool := match p.2 with
  | true => ([], p)
  | false => match decS (l.drop p.1) with
    | none => ([], 0, true)
    | some (t, k) => (t, p.1 + k, false)
end RW
/-- block bi alone may have been written; none is new -/
structure Only (bi : Nat) (w w' : World) : Prop where
  os : w'.os = w.os
  tape : w'.tape = w.tape
  output : w'.output = w.output
  size : w'.heap.size = w.heap.size
  block : ∀ k, k ≠ bi → w'.heap[k]? = w.heap[k]?
theorem Only.refl (bi : Nat) (w : World) : Only bi w w := ⟨rfl, rfl, rfl, rfl, fun _ _ => rfl⟩
theorem Only.setCell {bi : Nat} {w w' : World} (h : Only bi w w') (i : Nat) (v : Value) : Only bi w (w'.setCell ⟨bi, i, none⟩ v) :=
  ⟨h.os, h.tape, h.output, by rw [← h.size]; simp [World.setCell], fun k hk => (Below.heap_setCell _ _ _ _ hk).trans (h.block k hk)⟩
theorem Only.drewN {bi : Nat} {w w' : World} (h : Only bi w w') (n : Nat) : Only bi w (w'.drewN n) := ⟨h.os, h.tape, h.output, h.size, h.block⟩
theorem Only.below {bi B : Nat} {w w' : World} (h : Only bi w w') (hB : B ≤ bi) : Below B w w' := ⟨h.os, h.tape, h.output, by rw [h.size]; exact Nat.le_refl _, fun k hk => h.block k (by omega)⟩
/-- the world behind a reading -/
def rdW (bi : Nat) (w : World) (p q : Nat × Bool) : World := match p.2 with
  | true => w
  | false => (w.drew.setCell ⟨bi, 1, none⟩ (.int .i64 q.1)).setCell ⟨bi, 2, none⟩ (.bool q.2)
def RdPost (bi : Nat) (w : World) (s : ByteArray) (v : Value) (p q : Nat × Bool) (e : Ending) (w' : World) : Prop :=
  e = .returned v ∧ w'.heap[bi]? = some (.cells (RW.inC s q) 79 (0, 0)) ∧ Only bi w w' ∧ w' = rdW bi w p q
set_option maxRecDepth 10000 in
set_option maxHeartbeats 2000000 in
theorem number_any (bi : Nat) (s : ByteArray) (hs : s.size ≤ 9223372036854775807) (p : Nat × Bool) (hp : p.1 ≤ s.size) (w : World) (h : w.heap[bi]? = some (.cells (RW.inC s p) 79 (0, 0))) :
    Calls Tryd.prog 55 #[.pointer (some ⟨bi, 0, none⟩)] w (RdPost bi w s (.int .i64 (RW.rdI s.data.toList p).1) p (RW.rdI s.data.toList p).2) := by
  obtain ⟨at_, bad⟩ := p
  have c0 : w.cell? ⟨bi, 0, none⟩ = some (.string s) := by rw [cell_at h]; rfl
  have c1 : w.cell? ⟨bi, 1, none⟩ = some (.int .i64 at_) := by rw [cell_at h]; rfl
  have c2 : w.cell? ⟨bi, 2, none⟩ = some (.bool bad) := by rw [cell_at h]; rfl
  have f1 : w.frozen? ⟨bi, 1, none⟩ = false := by simp [World.frozen?, h]
  have f2 : w.frozen? ⟨bi, 2, none⟩ = false := by simp [World.frozen?, h]
  have hH := hide h
  clear h
  cases bad with
  | true =>
    go_enter Tryd.func55, Tryd.ntmps55
    go_wp2
    go_ret
    exact ⟨rfl, hH.out, Only.refl _ _, rfl⟩
  | false =>
    have hI := fun W => int_walk s at_ W (by omega) hp
    rcases hD : RW.decI (s.data.toList.drop at_) with _ | ⟨n, k⟩
    · have e : RW.rdI s.data.toList (at_, false) = (0, 0, true) := by simp only [RW.rdI, hD]
      rw [e]
      rw [hD] at hI
      simp only [intRes] at hI
      have hIH := hide hI
      clear hI hD e
      go_enter Tryd.func55, Tryd.ntmps55
      go_upto_region 3 with fail
      go_region_held3 (fun w' => w'.cell? ⟨bi, 0, none⟩ = some (.string s) ∧ w'.cell? ⟨bi, 1, none⟩ = some (.int .i64 at_)) (go_keep)
        (first | ((with_reducible refine (hIH.out _).mono ?_); rintro e w' ⟨rfl, rfl⟩))
      go_upto_region 4 with fail
      refine gen_world (fun W => Only bi w W ∧ W.heap[bi]? = some (.cells (RW.inC s (at_, false)) 79 (0, 0)) ∧ Hid (W = w.drew)) ⟨⟨rfl, rfl, rfl, rfl, fun _ _ => rfl⟩, hH.out, rfl⟩ ?_
      clear c0 c1 c2 f1 f2 hH hIH
      rintro W ⟨hO, hW, hWe⟩
      have c1 : W.cell? ⟨bi, 1, none⟩ = some (.int .i64 at_) := by rw [cell_at hW]; rfl
      have c2 : W.cell? ⟨bi, 2, none⟩ = some (.bool false) := by rw [cell_at hW]; rfl
      have f1 : W.frozen? ⟨bi, 1, none⟩ = false := by simp [World.frozen?, hW]
      have f2 : W.frozen? ⟨bi, 2, none⟩ = false := by simp [World.frozen?, hW]
      have f2' : ∀ v, (W.setCell ⟨bi, 1, none⟩ v).frozen? ⟨bi, 2, none⟩ = false := fun v => by rw [World.frozen?_setCell]; exact f2
      have hst := hide (fun (u v : Value) => heap_setCell_same _ _ 2 _ _ v (heap_setCell_same _ _ 1 _ _ u hW))
      have hOH := hide hO
      clear hO hW
      go_wp2
      go_ret
      exact ⟨rfl, hst.out _ _, (hOH.out.setCell 1 _).setCell 2 _, by rw [hWe.out]; rfl⟩
    · have e : RW.rdI s.data.toList (at_, false) = (n, at_ + k, false) := by simp only [RW.rdI, hD]
      rw [e]
      rw [hD] at hI
      simp only [intRes] at hI
      have hIH := hide hI
      clear hI hD e
      go_enter Tryd.func55, Tryd.ntmps55
      go_upto_region 3 with fail
      go_region_held3 (fun w' => w'.cell? ⟨bi, 0, none⟩ = some (.string s) ∧ w'.cell? ⟨bi, 1, none⟩ = some (.int .i64 at_)) (go_keep)
        (first | ((with_reducible refine (hIH.out _).mono ?_); rintro e w' ⟨rfl, rfl⟩))
      go_upto_region 4 with fail
      refine gen_world (fun W => Only bi w W ∧ W.heap[bi]? = some (.cells (RW.inC s (at_, false)) 79 (0, 0)) ∧ Hid (W = w.drew)) ⟨⟨rfl, rfl, rfl, rfl, fun _ _ => rfl⟩, hH.out, rfl⟩ ?_
      clear c0 c1 c2 f1 f2 hH hIH
      rintro W ⟨hO, hW, hWe⟩
      have c1 : W.cell? ⟨bi, 1, none⟩ = some (.int .i64 at_) := by rw [cell_at hW]; rfl
      have c2 : W.cell? ⟨bi, 2, none⟩ = some (.bool false) := by rw [cell_at hW]; rfl
      have f1 : W.frozen? ⟨bi, 1, none⟩ = false := by simp [World.frozen?, hW]
      have f2 : W.frozen? ⟨bi, 2, none⟩ = false := by simp [World.frozen?, hW]
      have f2' : ∀ v, (W.setCell ⟨bi, 1, none⟩ v).frozen? ⟨bi, 2, none⟩ = false := fun v => by rw [World.frozen?_setCell]; exact f2
      have hst := hide (fun (u v : Value) => heap_setCell_same _ _ 2 _ _ v (heap_setCell_same _ _ 1 _ _ u hW))
      have hOH := hide hO
      clear hO hW
      go_wp2
      go_ret
      exact ⟨rfl, hst.out _ _, (hOH.out.setCell 1 _).setCell 2 _, by rw [hWe.out]; rfl⟩
set_option maxRecDepth 10000 in
set_option maxHeartbeats 2000000 in
theorem text_any (bi : Nat) (s : ByteArray) (hs : s.size ≤ 9223372036854775807) (p : Nat × Bool) (hp : p.1 ≤ s.size) (w : World) (h : w.heap[bi]? = some (.cells (RW.inC s p) 79 (0, 0))) :
    Calls Tryd.prog 56 #[.pointer (some ⟨bi, 0, none⟩)] w (RdPost bi w s (.string ⟨(RW.rdS s.data.toList p).1.toArray⟩) p (RW.rdS s.data.toList p).2) := by
  obtain ⟨at_, bad⟩ := p
  have c0 : w.cell? ⟨bi, 0, none⟩ = some (.string s) := by rw [cell_at h]; rfl
  have c1 : w.cell? ⟨bi, 1, none⟩ = some (.int .i64 at_) := by rw [cell_at h]; rfl
  have c2 : w.cell? ⟨bi, 2, none⟩ = some (.bool bad) := by rw [cell_at h]; rfl
  have f1 : w.frozen? ⟨bi, 1, none⟩ = false := by simp [World.frozen?, h]
  have f2 : w.frozen? ⟨bi, 2, none⟩ = false := by simp [World.frozen?, h]
  have hH := hide h
  clear h
  cases bad with
  | true =>
    go_enter Tryd.func56, Tryd.ntmps56
    go_wp2
    go_ret
    exact ⟨rfl, hH.out, Only.refl _ _, rfl⟩
  | false =>
    have hI := fun W => str_walk s at_ W (by omega) hp
    rcases hD : RW.decS (s.data.toList.drop at_) with _ | ⟨t, k⟩
    · have e : RW.rdS s.data.toList (at_, false) = ([], 0, true) := by simp only [RW.rdS, hD]
      rw [e]
      rw [hD] at hI
      simp only [strRes] at hI
      have hIH := hide hI
      clear hI hD e
      go_enter Tryd.func56, Tryd.ntmps56
      go_upto_region 3 with fail
      go_region_held3 (fun w' => w'.cell? ⟨bi, 0, none⟩ = some (.string s) ∧ w'.cell? ⟨bi, 1, none⟩ = some (.int .i64 at_)) (go_keep)
        (first | ((with_reducible refine (hIH.out _).mono ?_); rintro e w' ⟨rfl, rfl⟩))
      go_upto_region 4 with fail
      refine gen_world (fun W => Only bi w W ∧ W.heap[bi]? = some (.cells (RW.inC s (at_, false)) 79 (0, 0)) ∧ Hid (W = w.drew)) ⟨⟨rfl, rfl, rfl, rfl, fun _ _ => rfl⟩, hH.out, rfl⟩ ?_
      clear c0 c1 c2 f1 f2 hH hIH
      rintro W ⟨hO, hW, hWe⟩
      have c1 : W.cell? ⟨bi, 1, none⟩ = some (.int .i64 at_) := by rw [cell_at hW]; rfl
      have c2 : W.cell? ⟨bi, 2, none⟩ = some (.bool false) := by rw [cell_at hW]; rfl
      have f1 : W.frozen? ⟨bi, 1, none⟩ = false := by simp [World.frozen?, hW]
      have f2 : W.frozen? ⟨bi, 2, none⟩ = false := by simp [World.frozen?, hW]
      have f2' : ∀ v, (W.setCell ⟨bi, 1, none⟩ v).frozen? ⟨bi, 2, none⟩ = false := fun v => by rw [World.frozen?_setCell]; exact f2
      have hst := hide (fun (u v : Value) => heap_setCell_same _ _ 2 _ _ v (heap_setCell_same _ _ 1 _ _ u hW))
      have hOH := hide hO
      clear hO hW
      go_wp2
      go_ret
      exact ⟨rfl, hst.out _ _, (hOH.out.setCell 1 _).setCell 2 _, by rw [hWe.out]; rfl⟩
    · have e : RW.rdS s.data.toList (at_, false) = (t, at_ + k, false) := by simp only [RW.rdS, hD]
      rw [e]
      rw [hD] at hI
      simp only [strRes] at hI
      have hIH := hide hI
      clear hI hD e
      go_enter Tryd.func56, Tryd.ntmps56
      go_upto_region 3 with fail
      go_region_held3 (fun w' => w'.cell? ⟨bi, 0, none⟩ = some (.string s) ∧ w'.cell? ⟨bi, 1, none⟩ = some (.int .i64 at_)) (go_keep)
        (first | ((with_reducible refine (hIH.out _).mono ?_); rintro e w' ⟨rfl, rfl⟩))
      go_upto_region 4 with fail
      refine gen_world (fun W => Only bi w W ∧ W.heap[bi]? = some (.cells (RW.inC s (at_, false)) 79 (0, 0)) ∧ Hid (W = w.drew)) ⟨⟨rfl, rfl, rfl, rfl, fun _ _ => rfl⟩, hH.out, rfl⟩ ?_
      clear c0 c1 c2 f1 f2 hH hIH
      rintro W ⟨hO, hW, hWe⟩
      have c1 : W.cell? ⟨bi, 1, none⟩ = some (.int .i64 at_) := by rw [cell_at hW]; rfl
      have c2 : W.cell? ⟨bi, 2, none⟩ = some (.bool false) := by rw [cell_at hW]; rfl
      have f1 : W.frozen? ⟨bi, 1, none⟩ = false := by simp [World.frozen?, hW]
      have f2 : W.frozen? ⟨bi, 2, none⟩ = false := by simp [World.frozen?, hW]
      have f2' : ∀ v, (W.setCell ⟨bi, 1, none⟩ v).frozen? ⟨bi, 2, none⟩ = false := fun v => by rw [World.frozen?_setCell]; exact f2
      have hst := hide (fun (u v : Value) => heap_setCell_same _ _ 2 _ _ v (heap_setCell_same _ _ 1 _ _ u hW))
      have hOH := hide hO
      clear hO hW
      go_wp2
      go_ret
      exact ⟨rfl, hst.out _ _, (hOH.out.setCell 1 _).setCell 2 _, by rw [hWe.out]; rfl⟩
end Go.Proofs.YtcbckcojebanaaaDoor

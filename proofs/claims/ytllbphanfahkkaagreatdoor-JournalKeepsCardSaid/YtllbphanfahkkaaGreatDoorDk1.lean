/-
  Package disk: a disk as plain data; a disk in memory; what a call on it may change: no condition beyond each theorem's own premises.
-/
import Derived.Test.YtllbphanfahkkaaGreatDoorMS
import Derived.Laws.CopyOwn
import Derived.Laws.BytesArg
namespace Go.Proofs.YtllbphanfahkkaaGreatDoor
open Go.RowKit
namespace RW
/-- a disk: no power, writes left, durable and visible content, pending writes -/
structure Dk where
  off : Bool
  left : Nat
  dur : List UInt8
  vis : List UInt8
  pend : List (Nat × ByteArray)
def byl (l : List UInt8) : List Value := l.map fun u => .int .u8 (u.toNat : Int)
def wrl (x : Nat × ByteArray) : List Value := [.int .i64 (x.1 : Int), .string x.2]
def dkl (off : Bool) (left : Int) (dv vv pv : Value) : Array Value := #[.bool off, .int .i64 left, dv, vv, pv]
/-- bytes laid over a content -/
def lay (l : List UInt8) (o : Nat) (s : List UInt8) : List UInt8 := Go.splice l o s
def insB (n : Nat) (o k : Int) : Bool := decide (0 ≤ o) && (decide (0 ≤ k) && (decide (o ≤ n) && decide (k ≤ n - o)))
theorem insB_iff (n : Nat) (o k : Int) : insB n o k = true ↔ 0 ≤ o ∧ 0 ≤ k ∧ o ≤ n ∧ k ≤ n - o := by simp [insB]
/-- what counting a write leaves -/
def used (off : Bool) (left : Nat) : Bool × Nat := if left = 0 then (off, left) else (decide (left - 1 = 0), left - 1)
def Dk.write (S : Dk) (n : Nat) (o : Int) (s : ByteArray) : Int × Dk :=
  if S.off then (221, S) else if insB n o (s.size : Int) then (0, ⟨(used S.off S.left).1, (used S.off S.left).2, S.dur, lay S.vis o.toNat s.data.toList, S.pend ++ [(o.toNat, s)]⟩) else (220, S)
def Dk.sync (S : Dk) : Int × Dk := if S.off then (221, S) else (0, ⟨S.off, S.left, S.vis, S.vis, []⟩)
def Dk.cut (S : Dk) (k : Int) : Int × Dk := if S.off then (221, S) else if k < 0 then (2, S) else (0, ⟨decide (k = 0), k.toNat, S.dur, S.vis, S.pend⟩)
def strOf (l : List UInt8) : ByteArray := ⟨l.toArray⟩
def Dk.read (S : Dk) (n : Nat) (o k : Int) : ByteArray × Int := if S.off then (⟨#[]⟩, 221) else if insB n o k then (strOf ((S.vis.drop o.toNat).take k.toNat), 0) else (⟨#[]⟩, 220)
end RW
/-- a disk in memory -/
structure DiskAt (W : World) (B b n db vb : Nat) (pv : Value) (S : RW.Dk) : Prop where
  row : W.heap[b]? = some (.cells (RW.dkl S.off (S.left : Int) (.slice (some ⟨db, 0, none⟩) n n) (.slice (some ⟨vb, 0, none⟩) n n) pv) 108 (0, 0))
  dur : W.heap[db]? = some (.cells (RW.byl S.dur).toArray 5 (0, 0))
  vis : W.heap[vb]? = some (.cells (RW.byl S.vis).toArray 5 (0, 0))
  pend : W.ownsRow B 103 2 pv S.pend.length (rowCells RW.wrl S.pend)
  hb : B ≤ b
  hd : B ≤ db
  hv : B ≤ vb
  ne : db ≠ vb
  ld : S.dur.length = n
  lv : S.vis.length = n
  hn : n ≤ 4194304
  lf : (S.left : Int) ≤ 9223372036854775807
/-- what a call on a disk may change: its own blocks, blocks of writes, new blocks -/
structure Tch (b db vb : Nat) (W W' : World) : Prop where
  os : W'.os = W.os
  tape : W'.tape = W.tape
  output : W'.output = W.output
  size : W.heap.size ≤ W'.heap.size
  block : ∀ k, k < W.heap.size → k ≠ b → k ≠ db → k ≠ vb → (∀ cur fr, W.heap[k]? ≠ some (.cells cur 103 fr)) → W'.heap[k]? = W.heap[k]?
theorem Tch.refl (b db vb : Nat) (W : World) : Tch b db vb W W := ⟨rfl, rfl, rfl, Nat.le_refl _, fun _ _ _ _ _ _ => rfl⟩
theorem Tch.trans {b db vb : Nat} {W W' W'' : World} (h : Tch b db vb W W') (g : Tch b db vb W' W'') : Tch b db vb W W'' :=
  ⟨g.os.trans h.os, g.tape.trans h.tape, g.output.trans h.output, Nat.le_trans h.size g.size, fun k hk h1 h2 h3 h4 => by
    have e := h.block k hk h1 h2 h3 h4
    rw [← e]
    exact g.block k (Nat.lt_of_lt_of_le hk h.size) h1 h2 h3 (by rw [e]; exact h4)⟩
theorem Tch.of_below {b db vb : Nat} {W W' : World} (h : Below W.heap.size W W') : Tch b db vb W W' := ⟨h.os, h.tape, h.output, h.size, fun k hk _ _ _ _ => h.block k hk⟩
theorem wrl_len (x : Nat × ByteArray) : (RW.wrl x).length = 2 := rfl
theorem wrl_one (x : Nat × ByteArray) : ∀ u ∈ RW.wrl x, u.oneCell' = true := by
  intro u hu
  simp [RW.wrl] at hu
  rcases hu with rfl | rfl <;> rfl
theorem byl_len (l : List UInt8) : (RW.byl l).length = l.length := by simp [RW.byl]
theorem byl_one (l : List UInt8) : ∀ u ∈ RW.byl l, u.oneCell' = true := by
  intro u hu
  simp [RW.byl] at hu
  obtain ⟨a, _, rfl⟩ := hu
  rfl
theorem byl_lay (l : List UInt8) (o : Nat) (s : List UInt8) : RW.byl (RW.lay l o s) = Go.splice (RW.byl l) o (RW.byl s) := by
  simp [RW.byl, RW.lay, Go.splice]
theorem lay_len {l : List UInt8} {o : Nat} {s : List UInt8} (h : o + s.length ≤ l.length) : (RW.lay l o s).length = l.length := length_splice l o s h
section
variable {W W' : World} {B b n db vb : Nat} {pv : Value} {S : RW.Dk}
theorem DiskAt.lt (h : DiskAt W B b n db vb pv S) : b < W.heap.size ∧ db < W.heap.size ∧ vb < W.heap.size :=
  ⟨(Array.getElem?_eq_some_iff.1 h.row).1, (Array.getElem?_eq_some_iff.1 h.dur).1, (Array.getElem?_eq_some_iff.1 h.vis).1⟩
theorem DiskAt.keep (h : DiskAt W B b n db vb pv S) (hk : ∀ k, k < W.heap.size → (k = b ∨ k = db ∨ k = vb ∨ ∃ cur fr, W.heap[k]? = some (.cells cur 103 fr)) → W'.heap[k]? = W.heap[k]?) : DiskAt W' B b n db vb pv S := by
  obtain ⟨h1, h2, h3⟩ := h.lt
  refine ⟨(hk b h1 (.inl rfl)).trans h.row, (hk db h2 (.inr (.inl rfl))).trans h.dur, (hk vb h3 (.inr (.inr (.inl rfl)))).trans h.vis, ⟨h.pend.1, h.pend.2.imp id ?_⟩, h.hb, h.hd, h.hv, h.ne, h.ld, h.lv, h.hn, h.lf⟩
  rintro ⟨g, cap, cur, g1, g2, g3, g4⟩
  exact ⟨g, cap, cur, g1, g2, (hk g (Array.getElem?_eq_some_iff.1 g3).1 (.inr (.inr (.inr ⟨cur, _, g3⟩)))).trans g3, g4⟩
theorem DiskAt.next (h : DiskAt W B b n db vb pv S) (hB : Below W.heap.size W W') : DiskAt W' B b n db vb pv S := h.keep fun k hk _ => hB.block k hk
/-- the blocks are five -/
theorem DiskAt.apart (h : DiskAt W B b n db vb pv S) : b ≠ db ∧ b ≠ vb ∧ ∀ g, pv.ownBlock = some g → g ≠ b ∧ g ≠ db ∧ g ≠ vb := by
  have key : ∀ {i j : Nat} {c c' : Array Value} {t t' : TypeId} {f f' : Nat × Nat}, W.heap[i]? = some (.cells c t f) → W.heap[j]? = some (.cells c' t' f') → t ≠ t' → i ≠ j := by
    rintro i j c c' t t' f f' h1 h2 hne rfl
    rw [h1] at h2
    injection h2 with h2
    injection h2 with _ h2
    exact hne h2
  refine ⟨key h.row h.dur (by decide), key h.row h.vis (by decide), fun g hg => ?_⟩
  rcases h.pend.2 with ⟨rfl, _⟩ | ⟨g', cap, cur, rfl, _, h3, _⟩
  · cases hg
  · cases hg
    exact ⟨key h3 h.row (by decide), key h3 h.dur (by decide), key h3 h.vis (by decide)⟩
end
end Go.Proofs.YtllbphanfahkkaaGreatDoor

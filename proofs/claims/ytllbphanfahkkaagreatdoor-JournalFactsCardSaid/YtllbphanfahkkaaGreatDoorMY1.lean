/-
  Package disk: a disk as plain data; a disk in memory; what a call on it may change: no condition beyond each theorem's own premises.
-/
import Derived.Test.YtllbphanfahkkaaGreatDoorMS
import Derived.Laws.CopyOwn
import Derived.Laws.BytesArg
namespace Go.Proofs.YtllbphanfahkkaaGreatDoor
open Go.RowKit
namespace RW
/-- a disk: no power, writes left, durable and visible content, pending writes -/
structure Dk where
  off : Bool
  left : Nat
  dur : List UInt8
  vis : List UInt8
  pend : List (Nat × ByteArray)
def byl (l : List UInt8) : List Value := l.map fun u => .int .u8 (u.toNat : Int)
def wrl (x : Nat × ByteArray) : List Value := [.int .i64 (x.1 : Int), .string x.2]
def dkl (off : Bool) (left : Int) (dv vv pv : Value) : Array Value := #[.bool off, .int .i64 left, dv, vv, pv]
/-- bytes laid over a content -/
def lay (l : List UInt8) (o : Nat) (s : List UInt8) : List UInt8 := Go.splice l o s
def insB (n : Nat) (o k : Int) : Bool := decide (0 ≤ o) && (decide (0 ≤ k) && (decide (o ≤ n) && decide (k ≤ n - o)))
theorem insB_iff (n : Nat) (o k : Int) : insB n o k = true ↔ 0 ≤ o ∧ 0 ≤ k ∧ o ≤ n ∧ k ≤ n - o := by simp [insB]
/-- what counting a write leaves -/
def used (off : Bool) (left : Nat) : Bool × Nat := if left = 0 then (off, left) else (decide (left - 1 = 0), left - 1)
def Dk.write (S : Dk) (n : Nat) (o : Int) (s : ByteArray) : Int × Dk :=
  if S.off then (221, S) else if insB n o (s.size : Int) then (0, ⟨(used S.off S.left).1, (used S.off S.left).2, S.dur, lay S.vis o.toNat s.data.toList, S.pend ++ [(o.toNat, s)]⟩) else (220, S)
def Dk.sync (S : Dk) : Int × Dk := if S.off then (221, S) else (0, ⟨S.off, S.left, S.vis, S.vis, []⟩)
def Dk.cut (S : Dk) (k : Int) : Int × Dk := if S.off then (221, S) else if k < 0 then (2, S) else (0, ⟨decide (k = 0), k.toNat, S.dur, S.vis, S.pend⟩)
def strOf (l : List UInt8) : ByteArray := ⟨l.toArray⟩
def Dk.read (S : Dk) (n : Nat) (o k : Int) : ByteArray × Int := if S.off then (⟨#[]⟩, 221) else if insB n o k then (strOf ((S.vis.drop o.toNat).take k.toNat), 0) else (⟨#[]⟩, 220)
end RW
/-- a disk in memory -/
structure DiskAt (W : World) (B b n db vb : Nat) (pv : Value) (S : RW.Dk) : Prop where
  row : W.heap[b]? = some (.cells (RW.dkl S.off (S.left : Int) (.slice (some ⟨db, 0, none⟩) n n) (.slice (some ⟨vb, 0, none⟩) n n) pv) 108 (0, 0))
  dur : W.heap[db]? = some (.cells (RW.byl S.dur).toArray 5 (0, 0))
  vis : W.heap[vb]? = some (.cells (RW.byl S.vis).toArray 5 (0, 0))
  pend : W.ownsRow B 103 2 pv S.pend.length (rowCells RW.wrl S.pend)
  hb : B ≤ b
  hd : B ≤ db
  hv : B ≤ vb
  ne : db ≠ vb
  ld : S.dur.length = n
  lv : S.vis.length = n
  hn : n ≤ 4194304
  lf : (S.left : Int) ≤ 9223372036854775807
/-- what a call on a disk may change: its own blocks, blocks of writes, new blocks -/
structure Tch (b db vb : Nat) (W W' : World) : Prop where
  os : W'.os = W.os
  tape : W'.tape = W.tape
  output : W'.output = W.output
  size : W.heap.size ≤ W'.heap.size
  block : ∀ k, k < W.heap.size → k ≠ b → k ≠ db → k ≠ vb → (∀ cur fr, W.heap[k]? ≠ some (.cells cur 103 fr)) → W'.heap[k]? = W.heap[k]?
theorem Tch.refl (b db vb : Nat) (W : World) : Tch b db vb W W := ⟨rfl, rfl, rfl, Nat.le_refl _, fun _ _ _ _ _ _ => rfl⟩
theorem Tch.trans {b db vb : Nat} {W W' W'' : World} (h : Tch b db vb W W') (g : Tch b db vb W' W'') : Tch b db vb W W'' :=
  ⟨g.os.trans h.os, g.tape.trans h.tape, g.output.trans h.output, Nat.le_trans h.size g.size, fun k hk h1 h2 h3 h4 => by
    have e := h.block k hk h1 h2 h3 h4
    rw [← e]
    exact g.block k (Nat.lt_of_lt_of_le hk h.size) h1 h2 h3 (by rw [e]; exact h4)⟩
theorem Tch.of_below {b db vb : Nat} {W W' : World} (h : Below W.heap.size W W') : Tch b db vb W W' := ⟨h.os, h.tape, h.output, h.size, fun k hk _ _ _ _ => h.block k hk⟩
theorem wrl_len (x : Nat × ByteArray) : (RW.wrl x).length = 2 := rfl
theorem wrl_one (x : Nat × ByteArray) : ∀ u ∈ RW.wrl x, u.oneCell' = true := by
  intro u hu
  simp [RW.wrl] at hu
  rcases hu with rfl | rfl <;> rfl
theorem byl_len (l : List UInt8) : (RW.byl l).length = l.length := by simp [RW.byl]
theorem byl_one (l : List UInt8) : ∀ u ∈ RW.byl l, u.oneCell' = true := by
  intro u hu
  simp [RW.byl] at hu
  obtain ⟨a, _, rfl⟩ := hu
  rfl
theorem byl_lay (l : List UInt8) (o : Nat) (s : List UInt8) : RW.byl (RW.lay l o s) = Go.splice (RW.byl l) o (RW.byl s) := by
  simp [RW.byl, RW.lay, Go.splice]
theorem lay_len {l : List UInt8} {o : Nat} {s : List UInt8} (h : o + s.length ≤ l.length) : (RW.lay l o s).length = l.length := length_splice l o s h
section
variable {W W' : World} {B b n db vb : Nat} {pv : Value} {S : RW.Dk}
theorem DiskAt.lt (h : DiskAt W B b n db vb pv S) : b < W.heap.size ∧ db < W.heap.size ∧ vb < W.heap.size :=
  ⟨(Array.getElem?_eq_some_iff.1 h.row).1, (Array.getElem?_eq_some_iff.1 h.dur).1, (Array.getElem?_eq_some_iff.1 h.vis).1⟩
theorem DiskAt.keep (h : DiskAt W B b n db vb pv S) (hk : ∀ k, k < W.heap.size → (k = b ∨ k = db ∨ k = vb ∨ ∃ cur fr, W.heap[k]? = some (.cells cur 103 fr)) → W'.heap[k]? = W.heap[k]?) : DiskAt W' B b n db vb pv S := by
  obtain ⟨h1, h2, h3⟩ := h.lt
  refine ⟨(hk b h1 (.inl rfl)).trans h.row, (hk db h2 (.inr (.inl rfl))).trans h.dur, (hk vb h3 (.inr (.inr (.inl rfl)))).trans h.vis, ⟨h.pend.1, h.pend.2.imp id ?_⟩, h.hb, h.hd, h.hv, h.ne, h.ld, h.lv, h.hn, h.lf⟩
  rintro ⟨g, cap, cur, g1, g2, g3, g4⟩
  exact ⟨g, cap, cur, g1, g2, (hk g (Array.getElem?_eq_some_iff.1 g3).1 (.inr (.inr (.inr ⟨cur, _, g3⟩)))).trans g3, g4⟩
theorem DiskAt.next (h : DiskAt W B b n db vb pv S) (hB : Below W.heap.size W W') : DiskAt W' B b n db vb pv S := h.keep fun k hk _ => hB.block k hk
/-- the blocks are five -/
theorem DiskAt.apart (h : DiskAt W B b n db vb pv S) : b ≠ db ∧ b ≠ vb ∧ ∀ g, pv.ownBlock = some g → g ≠ b ∧ g ≠ db ∧ g ≠ vb := by
  have key : ∀ {i j : Nat} {c c' : Array Value} {t t' : TypeId} {f f' : Nat × Nat}, W.heap[i]? = some (.cells c t f) → W.heap[j]? = some (.cells c' t' f') → t ≠ t' → i ≠ j := by
    rintro i j c c' t t' f f' h1 h2 hne rfl
    rw [h1] at h2
    injection h2 with h2
    injection h2 with _ h2
    exact hne h2
  refine ⟨key h.row h.dur (by decide), key h.row h.vis (by decide), fun g hg => ?_⟩
  rcases h.pend.2 with ⟨rfl, _⟩ | ⟨g', cap, cur, rfl, _, h3, _⟩
  · cases hg
  · cases hg
    exact ⟨key h3 h.row (by decide), key h3 h.dur (by decide), key h3 h.vis (by decide)⟩
end
end Go.Proofs.YtllbphanfahkkaaGreatDoor

/-
  Package disk: check, inside, used: what they return, what they change; copies of strings and of bytes.
-/
namespace Go.Proofs.YtllbphanfahkkaaGreatDoor
open Go.RowKit RG
/-- one block may change, new ones may come -/
structure Chg (b : Nat) (W W' : World) : Prop where
  os : W'.os = W.os
  tape : W'.tape = W.tape
  output : W'.output = W.output
  size : W.heap.size ≤ W'.heap.size
  block : ∀ k, k < W.heap.size → k ≠ b → W'.heap[k]? = W.heap[k]?
theorem Chg.refl (b : Nat) (W : World) : Chg b W W := ⟨rfl, rfl, rfl, Nat.le_refl _, fun _ _ _ => rfl⟩
theorem Chg.trans {b : Nat} {W W' W'' : World} (h : Chg b W W') (g : Chg b W' W'') : Chg b W W'' :=
  ⟨g.os.trans h.os, g.tape.trans h.tape, g.output.trans h.output, Nat.le_trans h.size g.size, fun k hk h1 => (g.block k (Nat.lt_of_lt_of_le hk h.size) h1).trans (h.block k hk h1)⟩
theorem Chg.set {b i : Nat} {W W' : World} (h : Chg b W W') (v : Value) : Chg b W (W'.setCell ⟨b, i, none⟩ v) :=
  h.trans ⟨rfl, rfl, rfl, by simp, fun k _ hk => Below.heap_setCell _ _ _ _ hk⟩
theorem Chg.row {b : Nat} {W W' : World} (h : Chg b W W') (cs : Array Value) : Chg b W (W'.setRow b cs) :=
  h.trans ⟨rfl, rfl, rfl, by simp [World.setRow], fun k _ hk => setRow_else _ _ _ _ hk⟩
theorem Chg.below {b B : Nat} {W W' : World} (h : Chg b W W') (hb : B ≤ b) (hB : B ≤ W.heap.size) : Below B W W' := ⟨h.os, h.tape, h.output, h.size, fun k hk => h.block k (by omega) (by omega)⟩
theorem Chg.new {b : Nat} {W W' : World} (h : Below W.heap.size W W') : Chg b W W' := ⟨h.os, h.tape, h.output, h.size, fun k hk _ => h.block k hk⟩
theorem run_copy_str {P : Program} (w : World) (dT sT ty elem : TypeId) (g o dLen dCap : Nat) (s : ByteArray) (cur : Array Value) (t : TypeId)
    (hu : P.underlying dT = some (.slice elem)) (hs : (P.info? elem).map (·.size) = some 1) (hg : w.heap[g]? = some (.cells cur t (0, 0))) (hn : s.size ≤ dLen) (hfit : o + s.size ≤ cur.size) :
    (Builtin.copy_ #[dT, sT] ty #[.slice (some ⟨g, o, none⟩) dLen dCap, .string s]).run P w = .ok (goInt s.size) (w.setRow g (cur.toList.take o ++ RW.byl s.data.toList ++ cur.toList.drop (o + s.size)).toArray) := by
  have hlen : (RW.byl s.data.toList).length = s.size := by rw [byl_len, Array.length_toList]; rfl
  have hst := run_storeCells_at P g o t (RW.byl s.data.toList) 0 cur w hg (by rw [Nat.add_zero, hlen]; exact hfit) (byl_one _)
  rw [Nat.add_zero, hlen] at hst
  have hmin : Nat.min s.size dLen = s.size := Nat.min_eq_left hn
  have htk : List.take s.size (List.map (fun b : UInt8 => Value.int .u8 (b.toNat : Int)) s.data.toList) = RW.byl s.data.toList := List.take_of_length_le (by rw [← hlen]; exact Nat.le_refl _)
  cases hq : P.info? elem with
  | none => simp [hq] at hs
  | some i =>
    simp [Builtin.copy_, hmin, htk, hst, run_underlying hu, sizeOf, typeInfo, hq, Builtin.firstCells, Builtin.lenOf]
set_option maxHeartbeats 1000000 in
theorem check_nil (w : World) : Calls Tryz.prog 51 #[.pointer none] w fun e w' => e = .returned (.int .i64 1) ∧ w = w' := by
  go_enter Tryz.func51, Tryz.ntmps51
  go_wp2
  go_ret
  exact ⟨rfl, rfl⟩
set_option maxHeartbeats 1000000 in
theorem check_any (b : Nat) (off : Bool) (left : Int) (dv vv pv : Value) (w : World) (hr : w.heap[b]? = some (.cells (RW.dkl off left dv vv pv) 108 (0, 0))) :
    Calls Tryz.prog 51 #[.pointer (some ⟨b, 0, none⟩)] w fun e w' => e = .returned (.int .i64 (if off then 221 else 0)) ∧ w = w' := by
  have c0 : w.cell? ⟨b, 0, none⟩ = some (.bool off) := cellAt hr 0
  clear hr
  cases off
  · go_enter Tryz.func51, Tryz.ntmps51
    go_wp2
    go_ret
    exact ⟨rfl, rfl⟩
  · go_enter Tryz.func51, Tryz.ntmps51
    go_wp2
    go_ret
    exact ⟨rfl, rfl⟩
set_option maxHeartbeats 1000000 in
theorem inside_any (b : Nat) (off : Bool) (left : Int) (p : Option Addr) (n c : Nat) (vv pv : Value) (o k : Int) (w : World) (hr : w.heap[b]? = some (.cells (RW.dkl off left (.slice p n c) vv pv) 108 (0, 0))) (hn : n ≤ 4194304) :
    Calls Tryz.prog 52 #[.pointer (some ⟨b, 0, none⟩), .int .i64 o, .int .i64 k] w fun e w' => e = .returned (.bool (RW.insB n o k)) ∧ w = w' := by
  have c2 : w.cell? ⟨b, 2, none⟩ = some (.slice p n c) := cellAt hr 2
  have hI := RW.insB_iff n o k
  obtain ⟨q, hq⟩ : ∃ q, q = RW.insB n o k := ⟨_, rfl⟩
  rw [← hq] at hI ⊢
  have no : ¬ (0 ≤ o ∧ 0 ≤ k ∧ o ≤ n ∧ k ≤ n - o) → q = false := fun h => Bool.eq_false_iff.2 fun h' => h (hI.1 h')
  clear hr hq
  by_cases h1 : 0 ≤ o
  · by_cases h2 : 0 ≤ k
    · by_cases h3 : o ≤ n
      · by_cases h4 : k ≤ n - o
        · have e := hide (hI.2 ⟨h1, h2, h3, h4⟩)
          clear no hI
          go_enter Tryz.func52, Tryz.ntmps52
          go_wp2
          go_ret
          exact ⟨by rw [e.out] <;> rfl, rfl⟩
        · have e := hide (no fun h => h4 h.2.2.2)
          clear no hI
          go_enter Tryz.func52, Tryz.ntmps52
          go_wp2
          go_ret
          exact ⟨by rw [e.out] <;> rfl, rfl⟩
      · have e := hide (no fun h => h3 h.2.2.1)
        clear no hI
        go_enter Tryz.func52, Tryz.ntmps52
        go_wp2
        go_ret
        exact ⟨by rw [e.out] <;> rfl, rfl⟩
    · have e := hide (no fun h => h2 h.2.1)
      clear no hI
      go_enter Tryz.func52, Tryz.ntmps52
      go_wp2
      go_ret
      exact ⟨by rw [e.out] <;> rfl, rfl⟩
  · have e := hide (no fun h => h1 h.1)
    clear no hI
    go_enter Tryz.func52, Tryz.ntmps52
    go_wp2
    go_ret
    exact ⟨by rw [e.out] <;> rfl, rfl⟩
set_option maxHeartbeats 1000000 in
theorem used_any (b : Nat) (off : Bool) (left : Nat) (dv vv pv : Value) (w : World) (hl : (left : Int) ≤ 9223372036854775807) (hr : w.heap[b]? = some (.cells (RW.dkl off left dv vv pv) 108 (0, 0))) :
    Calls Tryz.prog 54 #[.pointer (some ⟨b, 0, none⟩)] w fun e w' => (∃ v, e = .returned v) ∧ w'.heap[b]? = some (.cells (RW.dkl (RW.used off left).1 ((RW.used off left).2 : Nat) dv vv pv) 108 (0, 0)) ∧ Chg b w w' := by
  have c0 : w.cell? ⟨b, 0, none⟩ = some (.bool off) := cellAt hr 0
  have c1 : w.cell? ⟨b, 1, none⟩ = some (.int .i64 (left : Int)) := cellAt hr 1
  have f0 : w.frozen? ⟨b, 0, none⟩ = false := by simp [World.frozen?, hr]
  have f1 : w.frozen? ⟨b, 1, none⟩ = false := by simp [World.frozen?, hr]
  have hrH := hide hr
  clear hr
  cases left with
  | zero =>
    have c1' : w.cell? ⟨b, 1, none⟩ = some (.int .i64 0) := c1
    clear c1
    go_enter Tryz.func54, Tryz.ntmps54
    go_wp2
    refine bodyPost_ret (results_none rfl _ _ _) rfl ?_
    exact ⟨⟨_, rfl⟩, hrH.out, Chg.refl _ _⟩
  | succ m =>
    obtain ⟨k, hk⟩ : ∃ k : Int, k = ((m + 1 : Nat) : Int) := ⟨_, rfl⟩
    rw [← hk] at c1 hl
    have h0 : (k == 0) = false := by rw [beq_eq_false_iff_ne]; omega
    have h1 : 1 ≤ k := by omega
    have hkm := hide (show k - 1 = (m : Int) by omega)
    have hrk := hide (hk ▸ hrH.out : w.heap[b]? = some (.cells (RW.dkl off k dv vv pv) 108 (0, 0)))
    clear hk hrH
    go_enter Tryz.func54, Tryz.ntmps54
    go_wp2
    go_end0
    refine ⟨⟨_, rfl⟩, ?_, ((Chg.refl b w).set _).set _⟩
    refine (heap_setCell_same _ _ _ _ _ _ (heap_setCell_same _ _ _ _ _ _ hrk.out)).trans ?_
    rw [show RW.used off (m + 1) = (decide (m = 0), m) by simp [RW.used], hkm.out]
    have hb : ((m : Int) == 0) = decide (m = 0) := by
      by_cases h : m = 0
      · subst h; rfl
      · rw [decide_eq_false h, beq_eq_false_iff_ne]; omega
    rw [hb]
    rfl
end Go.Proofs.YtllbphanfahkkaaGreatDoor

/-
  Package disk: onto, settle: what they change; laws of operations in regions that draw.
-/
namespace Go.Proofs.YtllbphanfahkkaaGreatDoor
open Go.RowKit RG
section
variable {ev : Operand → Value} {o : Oper} {x y z : Operand} {w : World}
theorem op_mv {v : Value} (ho : o.op = .move x) (hx : ev x = v) : (execOp ev o).run Tryz.prog w = .ok (.value v) w := by
  unfold execOp
  rw [ho]
  simp only [hx]
  go_simp
theorem op_asg {v : Value} (ho : o.op = .assign x) (hx : ev x = v) : (execOp ev o).run Tryz.prog w = .ok (.value v) w := by
  unfold execOp
  rw [ho]
  simp only [hx]
  go_simp
theorem op_load_int {b i : Nat} {n : Int} (ho : o.op = .load 3 x) (hx : ev x = .pointer (some ⟨b, i, none⟩)) (hc : w.cell? ⟨b, i, none⟩ = some (.int .i64 n)) : (execOp ev o).run Tryz.prog w = .ok (.value (.int .i64 n)) w := by
  unfold execOp
  rw [ho]
  simp only [hx]
  go_simp
theorem op_load_str {b i : Nat} {s : ByteArray} (ho : o.op = .load 9 x) (hx : ev x = .pointer (some ⟨b, i, none⟩)) (hc : w.cell? ⟨b, i, none⟩ = some (.string s)) : (execOp ev o).run Tryz.prog w = .ok (.value (.string s)) w := by
  unfold execOp
  rw [ho]
  simp only [hx]
  go_simp
theorem op_load_by {b i : Nat} {p : Option Addr} {n c : Nat} (ho : o.op = .load 39 x) (hx : ev x = .pointer (some ⟨b, i, none⟩)) (hc : w.cell? ⟨b, i, none⟩ = some (.slice p n c)) : (execOp ev o).run Tryz.prog w = .ok (.value (.slice p n c)) w := by
  unfold execOp
  rw [ho]
  simp only [hx]
  go_simp
theorem op_load_ws {b i : Nat} {p : Option Addr} {n c : Nat} (ho : o.op = .load 104 x) (hx : ev x = .pointer (some ⟨b, i, none⟩)) (hc : w.cell? ⟨b, i, none⟩ = some (.slice p n c)) : (execOp ev o).run Tryz.prog w = .ok (.value (.slice p n c)) w := by
  unfold execOp
  rw [ho]
  simp only [hx]
  go_simp
theorem op_fa_w0 {b i : Nat} (ho : o.op = .fieldAddr 103 x 0) (hx : ev x = .pointer (some ⟨b, i, none⟩)) : (execOp ev o).run Tryz.prog w = .ok (.value (.pointer (some ⟨b, i, none⟩))) w := by
  unfold execOp
  rw [ho]
  simp only [hx]
  go_simp
theorem op_fa_w1 {b i : Nat} (ho : o.op = .fieldAddr 103 x 1) (hx : ev x = .pointer (some ⟨b, i, none⟩)) : (execOp ev o).run Tryz.prog w = .ok (.value (.pointer (some ⟨b, i + 1, none⟩))) w := by
  unfold execOp
  rw [ho]
  simp only [hx]
  go_simp
theorem op_fa_d {b i k : Nat} (hi : i < 4) (hk : k = (if i = 0 then 0 else i + 1)) (ho : o.op = .fieldAddr 108 x i) (hx : ev x = .pointer (some ⟨b, 0, none⟩)) : (execOp ev o).run Tryz.prog w = .ok (.value (.pointer (some ⟨b, k, none⟩))) w := by
  subst hk
  rcases i with _ | _ | _ | _ | i
  all_goals first | omega | skip
  all_goals
    unfold execOp
    rw [ho]
    simp only [hx]
    go_simp
theorem op_nc {p : Addr} (ho : o.op = .nilCheck x) (hx : ev x = .pointer (some p)) : (execOp ev o).run Tryz.prog w = .ok (.value (.pointer (some p))) w := by
  unfold execOp
  rw [ho]
  simp only [hx]
  go_simp
theorem op_slice_by {g n i : Nat} (ho : o.op = .slice 39 x (some y) none none) (hx : ev x = .slice (some ⟨g, 0, none⟩) n n) (hy : ev y = .int .i64 i) (hi : i ≤ n) : (execOp ev o).run Tryz.prog w = .ok (.value (.slice (if n = i then some ⟨g, 0, none⟩ else some ⟨g, i, none⟩) (n - i) (n - i))) w := by
  unfold execOp
  rw [ho]
  go_simp
theorem op_copy {s t : TypeId} {u v r : Value} {w' : World} (ho : o.op = .call { callee := .builtin .copy, args := #[x, y], argTypes := #[s, t] }) (hx : ev x = u) (hy : ev y = v) (hr : (Builtin.copy_ #[s, t] o.type #[u, v]).run Tryz.prog w = .ok r w') : (execOp ev o).run Tryz.prog w = .ok (.value r) w' := by
  unfold execOp
  simp only [ho, resolve, invoke, builtin, Sem.run_bind, Sem.run_pure, Result.andThen_ok, List.map_toArray, List.map_cons, List.map_nil, hx, hy, hr]
theorem op_app {t : TypeId} {v s v' : Value} {w' : World} (ho : o.op = .call { callee := .builtin .append, args := #[x, y], argTypes := #[t, t] }) (hx : ev x = v) (hy : ev y = s) (hr : (Builtin.append_ #[t, t] o.type #[v, s]).run Tryz.prog w = .ok v' w') :
    (execOp ev o).run Tryz.prog w = .ok (.value v') w' := by
  unfold execOp
  simp only [ho, resolve, invoke, builtin, Sem.run_bind, Sem.run_pure, Result.andThen_ok, List.map_toArray, List.map_cons, List.map_nil, hx, hy, hr]
theorem op_x2 {D : Value → World → Prop} {k : Nat} {ts : Array TypeId} {n m : Value} (ho : o.op = .call ⟨.value (.func k), #[x, y], ts⟩) (hf : ev (.func k) = .func (.func k) #[] #[]) (hx : ev x = n) (hy : ev y = m) (hk : ∀ args w, (callFunc k args).run Tryz.prog w = .ok (.enter k args) w)
    (h : Calls Tryz.prog k #[n, m] w fun e w'' => ∃ u, e = .returned u ∧ D u w'') : XUp Tryz.prog D ((execOp ev o).run Tryz.prog w) := by
  have h1 : (execOp ev o).run Tryz.prog w = .ok (.enter k #[n, m]) w := by
    unfold execOp
    rw [ho]
    go_simp
  rw [h1]
  exact h
theorem op_x3 {D : Value → World → Prop} {k : Nat} {ts : Array TypeId} {a b c : Value} (ho : o.op = .call ⟨.value (.func k), #[x, y, z], ts⟩) (hf : ev (.func k) = .func (.func k) #[] #[]) (hx : ev x = a) (hy : ev y = b) (hz : ev z = c) (hk : ∀ args w, (callFunc k args).run Tryz.prog w = .ok (.enter k args) w)
    (h : Calls Tryz.prog k #[a, b, c] w fun e w'' => ∃ u, e = .returned u ∧ D u w'') : XUp Tryz.prog D ((execOp ev o).run Tryz.prog w) := by
  have h1 : (execOp ev o).run Tryz.prog w = .ok (.enter k #[a, b, c]) w := by
    unfold execOp
    rw [ho]
    go_simp
  rw [h1]
  exact h
end
theorem byte_info : (Tryz.prog.info? 5).map (·.size) = some 1 := by kernel_rfl
theorem write_size (x : Nat × ByteArray) : (Tryz.prog.info? 103).map (·.size) = some (RW.wrl x).length := by kernel_rfl
set_option maxRecDepth 10000 in
set_option maxHeartbeats 1000000 in
theorem onto_any (i : Nat) (s : ByteArray) (vb n : Nat) (l : List UInt8) (w : World) (hr : w.heap[vb]? = some (.cells (RW.byl l).toArray 5 (0, 0))) (hl : l.length = n) (hi : i + s.size ≤ n) (hn : n ≤ 4194304) :
    Calls Tryz.prog 53 #[.agg (RW.wrl (i, s)).toArray, .slice (some ⟨vb, 0, none⟩) n n] w fun e w' => (∃ v, e = .returned v) ∧ w'.heap[vb]? = some (.cells (RW.byl (RW.lay l i s.data.toList)).toArray 5 (0, 0)) ∧ Chg vb w w' := by
  obtain ⟨rb, hrb⟩ : ∃ b, b = w.heap.size := ⟨_, rfl⟩
  have hlt := (Array.getElem?_eq_some_iff.1 hr).1
  have hx0 := hide (show (w.alloc (.cells (RW.wrl (i, s)).toArray 103)).heap[rb]? = some (.cells (RW.wrl (i, s)).toArray 103 (0, 0)) from newAt hrb)
  have hv0 := hide ((Below.heap_alloc w (.cells (RW.wrl (i, s)).toArray 103) vb hlt).trans hr)
  have hC0 := hide (Chg.new (b := vb) ((Below.refl w.heap.size w).alloc (Nat.le_refl _) (.cells (RW.wrl (i, s)).toArray 103)))
  have hne := hide (show rb ≠ vb by omega)
  have hlH := hide hl
  have hiH := hide hi
  have hrbH := hide hrb
  clear hr hrb hlt
  go_enter Tryz.func53, Tryz.ntmps53
  go_upto_region 1 with fail
  rw [← hrbH.out]
  refine gen_w (fun W => W.heap[rb]? = some (.cells (RW.wrl (i, s)).toArray 103 (0, 0)) ∧ W.heap[vb]? = some (.cells (RW.byl l).toArray 5 (0, 0)) ∧ Chg vb w W) ⟨hx0.out, hv0.out, hC0.out⟩ ?_
  rintro w1 ⟨g1, g2, g3⟩
  have hx1 := hide g1
  have hv1 := hide g2
  have hC1 := hide g3
  clear g1 g2 g3 hx0 hv0 hC0 hl hi
  refine wp_region_k (fun _ W => W.heap[rb]? = some (.cells (RW.wrl (i, s)).toArray 103 (0, 0))) (fun W => W.heap[vb]? = some (.cells (RW.byl l).toArray 5 (0, 0)) ∧ Chg vb w W) [6] (.op 0 (.op 1 (.op 2 (.op 3 (.op 4 (.op 5 (.op 6 .nil))))))) (by kernel_rfl) (by kernel_rfl) (by rfl) (by kernel_rfl) hx1.out ⟨hv1.out, hC1.out.trans ⟨rfl, rfl, rfl, Nat.le_refl _, fun _ _ _ => rfl⟩⟩ ?_
  refine k_val (.slice (some ⟨vb, 0, none⟩) n n) (by apply opN; repeat' (first | apply OpAt.z | apply OpAt.s)) (by rfl) (by rfl) (fun _ W hS => op_mv rfl rfl) ?_
  simp only [Act.put, List.setIfInBounds_toArray, List.set_cons_zero, List.set_cons_succ]
  refine k_val (.pointer (some ⟨rb, 0, none⟩)) (by apply opN; repeat' (first | apply OpAt.z | apply OpAt.s)) (by rfl) (by rfl) (fun _ W hS => op_fa_w0 rfl rfl) ?_
  simp only [Act.put, List.setIfInBounds_toArray, List.set_cons_zero, List.set_cons_succ]
  refine k_val (.int .i64 (i : Int)) (by apply opN; repeat' (first | apply OpAt.z | apply OpAt.s)) (by rfl) (by rfl) (fun _ W hS => op_load_int rfl rfl (cellAt hS 0)) ?_
  simp only [Act.put, List.setIfInBounds_toArray, List.set_cons_zero, List.set_cons_succ]
  refine k_val (.slice (if n = i then some ⟨vb, 0, none⟩ else some ⟨vb, i, none⟩) (n - i) (n - i)) (by apply opN; repeat' (first | apply OpAt.z | apply OpAt.s)) (by rfl) (by rfl) (fun _ W hS => op_slice_by rfl rfl rfl (by have := hiH.out; omega)) ?_
  simp only [Act.put, List.setIfInBounds_toArray, List.set_cons_zero, List.set_cons_succ]
  refine k_val (.pointer (some ⟨rb, 1, none⟩)) (by apply opN; repeat' (first | apply OpAt.z | apply OpAt.s)) (by rfl) (by rfl) (fun _ W hS => op_fa_w1 rfl rfl) ?_
  simp only [Act.put, List.setIfInBounds_toArray, List.set_cons_zero, List.set_cons_succ]
  refine k_val (.string s) (by apply opN; repeat' (first | apply OpAt.z | apply OpAt.s)) (by rfl) (by rfl) (fun _ W hS => op_load_str rfl rfl (cellAt hS 1)) ?_
  simp only [Act.put, List.setIfInBounds_toArray, List.set_cons_zero, List.set_cons_succ]
  refine k_step (fun K' u => K' = fun W => W.heap[vb]? = some (.cells (RW.byl (RW.lay l i s.data.toList)).toArray 5 (0, 0)) ∧ Chg vb w W) (by apply opN; repeat' (first | apply OpAt.z | apply OpAt.s)) (by rfl) (by rfl) (by rfl) (fun W hC hK => ?_) ?_
  · have hdl : s.data.toList.length = s.size := by rw [Array.length_toList]; rfl
    by_cases hni : n = i
    · have hs0 : s.size = 0 := by have := hiH.out; omega
      have hd0 : s.data.toList = [] := List.eq_nil_of_length_eq_zero (by omega)
      have hrun := run_copy_str (P := Tryz.prog) W 39 9 3 5 vb 0 (n - i) (n - i) s _ _ Tryz.underlying39 byte_info hK.1 (by omega) (by rw [hs0]; simp)
      rw [if_pos hni]
      rw [op_copy rfl rfl rfl hrun]
      refine ⟨(setRow_else _ _ _ _ hne.out).trans hC, _, ⟨(setRow_heap _ _ _ _ _ _ hK.1).trans ?_, hK.2.row _⟩, rfl⟩
      rw [hd0, hs0]
      simp [RW.lay, Go.splice, RW.byl]
    · have hrun := run_copy_str (P := Tryz.prog) W 39 9 3 5 vb i (n - i) (n - i) s _ _ Tryz.underlying39 byte_info hK.1 (by have := hiH.out; omega) (by rw [List.size_toArray, byl_len, hlH.out]; exact hiH.out)
      rw [if_neg hni]
      rw [op_copy rfl rfl rfl hrun]
      refine ⟨(setRow_else _ _ _ _ hne.out).trans hC, _, ⟨(setRow_heap _ _ _ _ _ _ hK.1).trans ?_, hK.2.row _⟩, rfl⟩
      rw [byl_lay, Go.splice, byl_len, hdl, List.append_assoc]
  rintro _ _ rfl
  simp only [Act.put, List.setIfInBounds_toArray, List.set_cons_zero, List.set_cons_succ]
  refine k_nil ?_
  intro W hC hK
  have hKH := hide hK
  clear hC hK
  go_wp2
  all_goals go_end0
  all_goals exact ⟨⟨_, rfl⟩, hKH.out.1, hKH.out.2⟩
end Go.Proofs.YtllbphanfahkkaaGreatDoor

/-
  Two boxes in memory beside a variable that holds a vote; the boxes' calls as laws of single operations: no condition beyond each theorem's own premises.
-/
import Derived.Test.YtcbckcojebanaaaDoorMb
import Derived.Test.YtcbckcojebanaaaDoorBow
import Derived.Test.YtcbckcojebanaaaDoorBr4
namespace Go.Proofs.YtcbckcojebanaaaDoor
open Go.RowKit RG
namespace RW
/-- how many sites have voted at a height in a round or a later one -/
noncomputable def aheadN (L : List (Vk × ByteArray)) (h r : Int) : Nat := @dite _ (∃ S, AheadOf L h r S) (Classical.propDecidable _) (fun e => e.choose.length) (fun _ => 0)
theorem aheadN_of {L : List (Vk × ByteArray)} {h r : Int} {S : List Int} (hS : AheadOf L h r S) : S.length = aheadN L h r := by
  unfold aheadN
  rw [dif_pos ⟨S, hS⟩]
  exact ahead_unique hS (Exists.choose_spec (⟨S, hS⟩ : ∃ S, AheadOf L h r S))
theorem aheadN_same {L M : List (Vk × ByteArray)} (h : ∀ k, voteAt L k = voteAt M k) (hh r : Int) : aheadN L hh r = aheadN M hh r := by
  by_cases e : ∃ S, AheadOf L hh r S
  · obtain ⟨S, hS⟩ := e
    rw [← aheadN_of hS, ← aheadN_of (ahead_same h hS)]
  · have e2 : ¬ ∃ S, AheadOf M hh r S := fun ⟨S, hS⟩ => e ⟨S, ahead_same (fun k => (h k).symm) hS⟩
    unfold aheadN
    rw [dif_neg e, dif_neg e2]
/-- the votes that rows of five numbers determine -/
def votesL (X : Nat → Nat → Int) (j : Nat) : List Mv := (List.range j).map fun i => (vn (X i), vd (X i))
theorem votesL_len (X : Nat → Nat → Int) (j : Nat) : (votesL X j).length = j := by simp [votesL]
theorem votesL_succ (X : Nat → Nat → Int) (j : Nat) : votesL X (j + 1) = votesL X j ++ [(vn (X j), vd (X j))] := by simp [votesL, List.range_succ]
theorem pickI_small (c n : Int) (h : 1 ≤ n) : 0 ≤ pickI c n ∧ pickI c n < n := pickI_bd c n h
theorem take_at1 {α : Type} {l : List α} {i : Nat} {x : α} (h : l[i]? = some x) : l.take (i + 1) = l.take i ++ [x] := by
  obtain ⟨hi, rfl⟩ := List.getElem?_eq_some_iff.1 h
  exact List.take_succ_eq_append_getElem hi
end RW
theorem count_box {W : World} {bx mb N : Nat} {L : List (RW.Vk × ByteArray)} (hb : BoxAt W bx mb N L) (hN : N ≤ 7) (kd h r : Int) (d : ByteArray) :
    Calls Tryd.prog 35 #[.pointer (some ⟨bx, 0, none⟩), .int .i64 kd, .int .i64 h, .int .i64 r, .string d] W fun e w' => e = .returned (.int .i64 (RW.cnt L kd h r d N)) ∧ Below W.heap.size W w' :=
  count_of (.pointer (some ⟨bx, 0, none⟩)) L N W kd h r d (fun W' h' => by subst h'; exact counts_any bx mb N L _ hb hN kd h r)
theorem most_box {W : World} {bx mb N : Nat} {L : List (RW.Vk × ByteArray)} (hb : BoxAt W bx mb N L) (hN : N ≤ 7) (kd h r : Int) :
    Calls Tryd.prog 33 #[.pointer (some ⟨bx, 0, none⟩), .int .i64 kd, .int .i64 h, .int .i64 r] W fun e w' => (∃ (best : ByteArray) (most : Nat), e = .returned (.tuple #[.string best, .int .i64 most]) ∧ RW.MostSpec (fun d => RW.cnt L kd h r d N) best most) ∧ Below W.heap.size W w' :=
  most_of (.pointer (some ⟨bx, 0, none⟩)) L N W kd h r (counts_any bx mb N L W hb hN kd h r)
theorem ahead_box {W : World} {bx mb N : Nat} {L : List (RW.Vk × ByteArray)} (hb : BoxAt W bx mb N L) (h r : Int) :
    Calls Tryd.prog 37 #[.pointer (some ⟨bx, 0, none⟩), .int .i64 h, .int .i64 r] W fun e w' => e = .returned (.int .i64 (RW.aheadN L h r)) ∧ Below W.heap.size W w' := by
  refine (ahead_any bx mb N L W hb h r).mono ?_
  rintro e w' ⟨⟨S, rfl, hS⟩, hB⟩
  exact ⟨by rw [RW.aheadN_of hS], hB⟩
/-- a vote put into a box -/
theorem add_box {W : World} {K : Nat → Int} {ks : Array Value} (hks : RW.WsOk ks K) (hK : KLaid W ks) {bx mb N : Nat} {L : List (RW.Vk × ByteArray)} (hb : BoxAt W bx mb N L) (x : RW.Mv) :
    Calls Tryd.prog 31 #[.pointer (some ⟨bx, 0, none⟩), .agg (RW.mcells x.1 x.2 (.slice none 0 0))] W fun e w' => e = .returned (.bool (RW.addOk (RW.okV K N x) (RW.vk x.1) L)) ∧ BoxAt w' bx mb N (RW.addV K N L x) ∧ KeptBut mb W w' :=
  bxadd_any x.1 x.2 (.slice none 0 0) [] W K (StrsV.nil _) (Nat.zero_le _) (by simp) ks hks hK bx mb N L hb
/-- two boxes of the call's own -/
structure TwoB (w : World) (B bx mb cx cm N : Nat) (L M : List (RW.Vk × ByteArray)) (W : World) : Prop where
  below : Below B w W
  b : BoxAt W bx mb N L
  c : BoxAt W cx cm N M
section
variable {w W W' : World} {B bx mb cx cm N : Nat} {L M L' : List (RW.Vk × ByteArray)}
theorem TwoB.next (h : TwoB w B bx mb cx cm N L M W) (hB : Below W.heap.size W W') (hBs : B ≤ W.heap.size) : TwoB w B bx mb cx cm N L M W' :=
  ⟨h.below.trans (hB.mono hBs), h.b.next hB, h.c.next hB⟩
theorem kept_below {mb : Nat} (hk : KeptBut mb W W') (h : Below B w W) (hm : B ≤ mb) (hBw : B ≤ w.heap.size) : Below B w W' :=
  ⟨hk.os.trans h.os, hk.tape.trans h.tape, hk.output.trans h.output, Nat.le_trans h.size hk.size, fun k hkl => (hk.block k (Nat.lt_of_lt_of_le hkl (Nat.le_trans hBw h.size)) (by omega)).trans (h.block k hkl)⟩
theorem TwoB.addb (h : TwoB w B bx mb cx cm N L M W) (hb : BoxAt W' bx mb N L') (hk : KeptBut mb W W') (hm : B ≤ mb) (hBw : B ≤ w.heap.size) (h1 : cx ≠ mb) (h2 : cm ≠ mb) : TwoB w B bx mb cx cm N L' M W' :=
  ⟨kept_below hk h.below hm hBw, hb, h.c.keep (hk.block _ h.c.lt.1 h1) (hk.block _ h.c.lt.2 h2)⟩
theorem TwoB.addc (h : TwoB w B bx mb cx cm N L M W) (hb : BoxAt W' cx cm N L') (hk : KeptBut cm W W') (hm : B ≤ cm) (hBw : B ≤ w.heap.size) (h1 : bx ≠ cm) (h2 : mb ≠ cm) : TwoB w B bx mb cx cm N L L' W' :=
  ⟨kept_below hk h.below hm hBw, h.b.keep (hk.block _ h.b.lt.1 h1) (hk.block _ h.b.lt.2 h2), hb⟩
end
theorem MsgO.at2 {W : World} {B g n c i : Nat} {L : List RW.Mv} {x : RW.Mv} (h : MsgO W B (.slice (some ⟨g, 0, none⟩) n c) L) (hx : L[i]? = some x) : B ≤ g ∧ g < W.heap.size ∧ W.rangeAt g (i * 8) (RW.mve x) ∧ W.there g (i * 8) 8 := by
  obtain ⟨g', c', e, h1⟩ := h.at hx
  injection e with e1 e2 e3
  injection e1 with e1
  injection e1 with e1
  subst e1
  exact h1
/-- two boxes, and a variable that holds a vote -/
structure VB (w : World) (B bx mb cx cm N : Nat) (L M : List (RW.Vk × ByteArray)) (bv : Nat) (cs : Array Value) (W : World) : Prop where
  t : TwoB w B bx mb cx cm N L M W
  v : W.heap[bv]? = some (.cells cs 24 (0, 0))
section
variable {w W W' : World} {B bx mb cx cm N bv : Nat} {cs : Array Value} {L M L' : List (RW.Vk × ByteArray)}
theorem VB.next (h : VB w B bx mb cx cm N L M bv cs W) (hB : Below W.heap.size W W') (hBw : B ≤ w.heap.size) : VB w B bx mb cx cm N L M bv cs W' :=
  ⟨h.t.next hB (Nat.le_trans hBw h.t.below.size), (hB.block _ (Array.getElem?_eq_some_iff.1 h.v).1).trans h.v⟩
theorem VB.new (h : TwoB w B bx mb cx cm N L M W) (hBw : B ≤ w.heap.size) (cs : Array Value) : VB w B bx mb cx cm N L M W.heap.size cs (W.alloc (.cells cs 24)) :=
  ⟨h.next ((Below.refl W.heap.size W).alloc (Nat.le_refl _) _) (Nat.le_trans hBw h.below.size), heap_alloc_new _ _⟩
theorem VB.addb (h : VB w B bx mb cx cm N L M bv cs W) (hb : BoxAt W' bx mb N L') (hk : KeptBut mb W W') (hm : B ≤ mb) (hBw : B ≤ w.heap.size) (h1 : cx ≠ mb) (h2 : cm ≠ mb) (h3 : bv ≠ mb) : VB w B bx mb cx cm N L' M bv cs W' :=
  ⟨h.t.addb hb hk hm hBw h1 h2, (hk.block _ (Array.getElem?_eq_some_iff.1 h.v).1 h3).trans h.v⟩
theorem VB.cell (h : VB w B bx mb cx cm N L M bv cs W) (i : Nat) : W.cell? ⟨bv, i, none⟩ = cs[i]? := cellAt h.v i
end
section
variable {ev : Operand → Value} {o : Oper} {x1 x2 x3 x4 x5 : Operand} {w : World}
theorem op_x3 {D : Value → World → Prop} {k : Nat} {ts : Array TypeId} {a b c : Value} (ho : o.op = .call ⟨.value (.func k), #[x1, x2, x3], ts⟩) (hf : ev (.func k) = .func (.func k) #[] #[]) (h1 : ev x1 = a) (h2 : ev x2 = b) (h3 : ev x3 = c) (hk : ∀ args w, (callFunc k args).run Tryd.prog w = .ok (.enter k args) w)
    (h : Calls Tryd.prog k #[a, b, c] w fun e w'' => ∃ u, e = .returned u ∧ D u w'') : XUp Tryd.prog D ((execOp ev o).run Tryd.prog w) := by
  have h1 : (execOp ev o).run Tryd.prog w = .ok (.enter k #[a, b, c]) w := by
    unfold execOp
    rw [ho]
    go_simp
  rw [h1]
  exact h
theorem op_x5 {D : Value → World → Prop} {k : Nat} {ts : Array TypeId} {a b c d e' : Value} (ho : o.op = .call ⟨.value (.func k), #[x1, x2, x3, x4, x5], ts⟩) (hf : ev (.func k) = .func (.func k) #[] #[]) (h1 : ev x1 = a) (h2 : ev x2 = b) (h3 : ev x3 = c) (h4 : ev x4 = d) (h5 : ev x5 = e') (hk : ∀ args w, (callFunc k args).run Tryd.prog w = .ok (.enter k args) w)
    (h : Calls Tryd.prog k #[a, b, c, d, e'] w fun e w'' => ∃ u, e = .returned u ∧ D u w'') : XUp Tryd.prog D ((execOp ev o).run Tryd.prog w) := by
  have h1 : (execOp ev o).run Tryd.prog w = .ok (.enter k #[a, b, c, d, e']) w := by
    unfold execOp
    rw [ho]
    go_simp
  rw [h1]
  exact h
end
theorem cf_count : ∀ args w, (callFunc 35 args).run Tryd.prog w = .ok (.enter 35 args) w := fun args w => by go_simp
theorem cf_ahead : ∀ args w, (callFunc 37 args).run Tryd.prog w = .ok (.enter 37 args) w := fun args w => by go_simp
end Go.Proofs.YtcbckcojebanaaaDoor

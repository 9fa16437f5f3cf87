/-
  Package ballot: a box's Most: what it returns; only new memory is written.
-/
import Derived.Test.YtcbckcojebanaaaDoorMZ2
import Derived.Test.YtcbckcojebanaaaDoorMK
import Derived.Shelf.Strings.OnBuilder
import Derived.Test.YtcbckcojebanaaaDoorProg
import Derived.Test.YtcbckcojebanaaaDoorMA
import Derived.Test.YtcbckcojebanaaaDoorMC
namespace Go.Proofs.YtcbckcojebanaaaDoor
open Go.RowKit RG
namespace RW
/-- the digest with most votes, of those that have come -/
structure MostOf (cn : ByteArray → Nat) (done : List ByteArray) (best : ByteArray) (most : Nat) : Prop where
  pos : ∀ d ∈ done, 0 < cn d
  one : (best = ⟨#[]⟩ ∧ most = 0 ∧ done = []) ∨ (best ∈ done ∧ most = cn best)
  top : ∀ d ∈ done, cn d < most ∨ (cn d = most ∧ Op.bytesLess d.toList best.toList = false)
theorem MostOf.nil (cn : ByteArray → Nat) : MostOf cn [] ⟨#[]⟩ 0 := ⟨by simp, .inl ⟨rfl, rfl, rfl⟩, by simp⟩
theorem MostOf.most_le {cn : ByteArray → Nat} {done : List ByteArray} {best : ByteArray} {most : Nat} (h : MostOf cn done best most) {N : Nat} (hc : ∀ d, cn d ≤ N) : most ≤ N := by
  rcases h.one with ⟨_, h1, _⟩ | ⟨_, h1⟩
  · omega
  · rw [h1]; exact hc _
theorem MostOf.take {cn : ByteArray → Nat} {done : List ByteArray} {best : ByteArray} {most : Nat} (h : MostOf cn done best most) (d : ByteArray) (hp : 0 < cn d) (hb : most < cn d ∨ (cn d = most ∧ Op.bytesLess d.toList best.toList = true)) : MostOf cn (d :: done) d (cn d) := by
  refine ⟨fun e he => ?_, .inr ⟨by simp, rfl⟩, fun e he => ?_⟩
  · rcases List.mem_cons.1 he with rfl | he
    · exact hp
    · exact h.pos e he
  · rcases List.mem_cons.1 he with rfl | he
    · exact .inr ⟨rfl, bl_irrefl _⟩
    · rcases hb with hb | ⟨hb, hl⟩
      · rcases h.top e he with h1 | ⟨h1, _⟩
        · exact .inl (by omega)
        · exact .inl (by omega)
      · rcases h.top e he with h1 | ⟨h1, h2⟩
        · exact .inl (by omega)
        · exact .inr ⟨by omega, bl_not_trans _ _ _ h2 hl⟩
theorem MostOf.leave {cn : ByteArray → Nat} {done : List ByteArray} {best : ByteArray} {most : Nat} (h : MostOf cn done best most) (d : ByteArray) (hp : 0 < cn d) (hb : ¬ most < cn d) (hl : cn d = most → Op.bytesLess d.toList best.toList = false) : MostOf cn (d :: done) best most := by
  refine ⟨fun e he => ?_, ?_, fun e he => ?_⟩
  · rcases List.mem_cons.1 he with rfl | he
    · exact hp
    · exact h.pos e he
  · rcases h.one with ⟨_, h2, _⟩ | ⟨h1, h2⟩
    · omega
    · exact .inr ⟨List.mem_cons_of_mem _ h1, h2⟩
  · rcases List.mem_cons.1 he with rfl | he
    · rcases Nat.lt_or_ge (cn e) most with h1 | h1
      · exact .inl h1
      · exact .inr ⟨by omega, hl (by omega)⟩
    · exact h.top e he
/-- the digest with most votes -/
def MostSpec (cn : ByteArray → Nat) (best : ByteArray) (most : Nat) : Prop :=
  ((best = ⟨#[]⟩ ∧ most = 0) ∨ (0 < most ∧ most = cn best)) ∧ ∀ d, 0 < cn d → cn d < most ∨ (cn d = most ∧ Op.bytesLess d.toList best.toList = false)
theorem MostOf.spec {cn : ByteArray → Nat} {done : List ByteArray} {best : ByteArray} {most : Nat} (h : MostOf cn done best most) (hall : ∀ d, 0 < cn d → d ∈ done) : MostSpec cn best most := by
  refine ⟨?_, fun d hd => h.top d (hall d hd)⟩
  rcases h.one with ⟨h1, h2, _⟩ | ⟨h1, h2⟩
  · exact .inl ⟨h1, h2⟩
  · exact .inr ⟨by rw [h2]; exact h.pos _ h1, h2⟩
theorem MostSpec.unique {cn : ByteArray → Nat} {b b' : ByteArray} {m m' : Nat} (h : MostSpec cn b m) (h' : MostSpec cn b' m') : b = b' ∧ m = m' := by
  obtain ⟨h1, h2⟩ := h
  obtain ⟨h1', h2'⟩ := h'
  rcases h1 with ⟨a1, a2⟩ | ⟨a1, a2⟩
  · rcases h1' with ⟨c1, c2⟩ | ⟨c1, c2⟩
    · exact ⟨a1.trans c1.symm, a2.trans c2.symm⟩
    · have := h2 b' (by omega); omega
  · rcases h1' with ⟨c1, c2⟩ | ⟨c1, c2⟩
    · have := h2' b (by omega); omega
    · have e1 := h2 b' (by omega)
      have e2 := h2' b (by omega)
      have hm : m = m' := by omega
      have l1 : Op.bytesLess b'.toList b.toList = false := by
        rcases e1 with e | e
        · omega
        · exact e.2
      have l2 : Op.bytesLess b.toList b'.toList = false := by
        rcases e2 with e | e
        · omega
        · exact e.2
      have h3 := bl_total _ _ l2 l1
      refine ⟨?_, hm⟩
      rw [ByteArray.toList_eq, ByteArray.toList_eq] at h3
      cases b with | mk x => cases b' with | mk y => cases x with | mk x => cases y with | mk y => simp at h3; rw [h3]
end RW
set_option maxRecDepth 100000 in
set_option maxHeartbeats 4000000 in
theorem most_of (p : Value) (L : List (RW.Vk × ByteArray)) (N : Nat) (w : World) (kd h r : Int) (hc : Calls Tryd.prog 60 #[p, .int .i64 kd, .int .i64 h, .int .i64 r] w (CountsPost L kd h r N w)) :
    Calls Tryd.prog 33 #[p, .int .i64 kd, .int .i64 h, .int .i64 r] w fun e w' => (∃ (best : ByteArray) (most : Nat), e = .returned (.tuple #[.string best, .int .i64 most]) ∧ RW.MostSpec (fun d => RW.cnt L kd h r d N) best most) ∧ Below w.heap.size w w' := by
  have hcH := hide hc
  clear hc
  obtain ⟨B, hB⟩ : ∃ B, B = w.heap.size := ⟨_, rfl⟩
  obtain ⟨cn, hcn⟩ : ∃ cn, cn = fun d => RW.cnt L kd h r d N := ⟨_, rfl⟩
  rw [← hcn]
  have hBH := hide hB
  have hcnH := hide hcn
  clear hB hcn
  go_enter Tryd.func33, Tryd.ntmps33
  go_wp2_with (go_at_call 60; refine hcH.out.mono ?_; rintro e w2 ⟨M, rfl, hown, hB2, hM⟩; obtain ⟨o, hrg, hit⟩ := hown.range Tryd.underlying96; have hitH := hide hit; have hB2H := hide hB2; have hMH := hide hM; clear hit hB2 hM; have hownH := hide hown; clear hown)
  obtain ⟨it, hie⟩ : ∃ it, it = w2.heap.size := ⟨_, rfl⟩
  have hit := hitH.out
  have hBl0 : Below B w (w2.alloc o) := by rw [hBH.out]; exact hB2H.out.alloc hB2H.out.size o
  have hBit : B ≤ it := by rw [hie, hBH.out]; exact hB2H.out.size
  rw [← hie, ← hBH.out] at hit
  have hnd := hownH.out.nodup
  rw [← hie]
  have hit0 := hide hit
  have hBl0H := hide hBl0
  have hndH := hide hnd
  clear hit hitH hie hownH hrg hBl0 hnd hB2H
  go_loopw [10, 11] (fun b m wr => ∃ (done : List ByteArray) (best : ByteArray) (most : Nat), b = .string best ∧ m = .int .i64 most ∧ KM.IterM RW.strK wr B it M done ∧ Below B w wr ∧ RW.MostOf cn done best most) (fun _ _ wr => KM.leftN wr B it)
  case atStart => exact ⟨[], ⟨#[]⟩, 0, rfl, rfl, hit0.out, hBl0H.out, RW.MostOf.nil cn⟩
  case round =>
    clear hit0 hBl0H
    obtain ⟨done, best, most, rfl, rfl, hit, hBw, hmo⟩ := hrel
    rcases hit.next (P := Tryd.prog) 0 with ⟨hall, hrun⟩ | ⟨⟨dx, vx⟩, hx, hxd, w', hrun, hit', hen, hlt, h1, h2, h3, h4, h5⟩
    · have hsp : RW.MostSpec cn best most := hmo.spec fun d hd => by
        have hg := hMH.out d
        rw [hcnH.out] at hd
        obtain ⟨c, hc⟩ : ∃ c, RW.cnt L kd h r d N = c + 1 := ⟨RW.cnt L kd h r d N - 1, by have : 0 < RW.cnt L kd h r d N := hd; omega⟩
        rw [hc] at hg
        exact hall _ (KM.get_mem hg)
      have hspH := hide hsp
      have hBwH := hide hBw
      clear hsp hall hit hmo hBw
      go_wp2
      go_ret2
      exact ⟨⟨best, most, rfl, hspH.out⟩, by rw [← hBH.out]; exact hBwH.out⟩
    · have hg := hMH.out dx
      rw [KM.get_of_mem hndH.out hx] at hg
      obtain ⟨n, hn⟩ : ∃ n, n = cn dx := ⟨_, rfl⟩
      have hn2 : RW.cnt L kd h r dx N = n := by rw [hn, hcnH.out]
      rw [hn2] at hg
      have hnp : 0 < n := by
        cases n with
        | zero => cases hg
        | succ c => exact Nat.succ_pos c
      have hv : vx = .int .i64 (n : Int) := by
        cases n with
        | zero => cases hg
        | succ c => exact Option.some.inj hg
      subst hv
      have hrun' : (Instr.next (.pointer (some ⟨it, 0, none⟩)) false 0).run Tryd.prog wr = .ok (.tuple #[.bool true, .string dx, .int .i64 (n : Int)]) w' := hrun
      have hen' : (Instr.entry (.pointer (some ⟨it, 0, none⟩))).run Tryd.prog w' = .ok (.tuple #[.string dx, .int .i64 (n : Int)]) w' := hen
      have hBn : Below B w w' := ⟨h1.trans hBw.os, h2.trans hBw.tape, h3.trans hBw.output, by rw [h4]; exact hBw.size, fun k hk => (h5 k (by omega)).trans (hBw.block k hk)⟩
      have hitH := hide hit'
      have hBnH := hide hBn
      have hmoH := hide hmo
      have hltH := hide hlt
      have hnH := hide hn
      clear hrun hen hit hit' hBw hBn hmo hlt hn hn2 hg hx hxd h1 h2 h3 h4 h5
      by_cases g1 : most < n
      · have gi : (most : Int) < (n : Int) := by omega
        have hmo' := hide (hmoH.out.take dx (by rw [← hnH.out]; exact hnp) (.inl (by rw [← hnH.out]; exact g1)))
        clear g1
        go_wp2
        go_roundw
        case rel => exact ⟨dx :: done, dx, n, rfl, rfl, hitH.out, hBnH.out, by rw [hnH.out]; exact hmo'.out⟩
        case measure => exact hltH.out
      · have gi : (n : Int) ≤ (most : Int) := by omega
        by_cases g2 : n = most
        · have ge : ((n : Int) == (most : Int)) = true := by rw [g2]; simp
          cases gl : Op.bytesLess dx.toList best.toList with
          | true =>
            have hmo' := hide (hmoH.out.take dx (by rw [← hnH.out]; exact hnp) (.inr ⟨by rw [← hnH.out]; exact g2, gl⟩))
            have hnm := hide g2
            clear g1 g2
            go_wp2
            go_roundw
            case rel => exact ⟨dx :: done, dx, n, rfl, rfl, hitH.out, hBnH.out, by rw [hnH.out]; exact hmo'.out⟩
            case measure => exact hltH.out
          | false =>
            have hmo' := hide (hmoH.out.leave dx (by rw [← hnH.out]; exact hnp) (by rw [← hnH.out]; exact g1) (fun _ => gl))
            clear g1 g2
            go_wp2
            go_roundw
            case rel => exact ⟨dx :: done, best, most, rfl, rfl, hitH.out, hBnH.out, hmo'.out⟩
            case measure => exact hltH.out
        · have ge : ((n : Int) == (most : Int)) = false := by rw [beq_eq_false_iff_ne]; omega
          have hmo' := hide (hmoH.out.leave dx (by rw [← hnH.out]; exact hnp) (by rw [← hnH.out]; exact g1) (fun g => absurd (by rw [← hnH.out] at g; exact g) g2))
          clear g1 g2
          go_wp2
          go_roundw
          case rel => exact ⟨dx :: done, best, most, rfl, rfl, hitH.out, hBnH.out, hmo'.out⟩
          case measure => exact hltH.out
end Go.Proofs.YtcbckcojebanaaaDoor

/-
  strings.Join, laid from the library's own contract: the whole of the elements with the separator between them; below the heap's end the world is as it was.
-/
namespace Go.Proofs.YtcbckcojebanaaaDoor
open Go.Shelf Go.RowKit
def SH.lays156_ren : Go.Shelf.Ren := ⟨fun | 156 => 59 | 165 => 72 | 166 => 41 | 169 => 44 | 240 => 64 | 241 => 80 | 276 => 76 | 277 => 82 | n => n, fun | 31 => 22 | 9 => 9 | 3 => 3 | 4 => 4 | 0 => 0 | 20 => 20 | 72 => 62 | 76 => 65 | 70 => 59 | 37 => 60 | 75 => 64 | 127 => 111 | 164 => 124 | 5 => 5 | 80 => 71 | n => n, fun | n => n⟩
theorem SH.lays156 : Go.Proofs.Lays.n156 Tryd.prog SH.lays156_ren := {
  mixed := by kernel_rfl
  f156 := Tryd.func59.trans (congrArg some (by kernel_rfl))
  f165 := Tryd.func72.trans (congrArg some (by kernel_rfl))
  f166 := Tryd.func41.trans (congrArg some (by kernel_rfl))
  f169 := Tryd.func44.trans (congrArg some (by kernel_rfl))
  f240 := Tryd.func64.trans (congrArg some (by kernel_rfl))
  f241 := Tryd.func80.trans (congrArg some (by kernel_rfl))
  f276 := Tryd.func76.trans (congrArg some (by kernel_rfl))
  f277 := Tryd.func82.trans (congrArg some (by kernel_rfl))
  t0 := Tryd.underlying0
  a0 := Tryd.isAgg0
  z0 := Tryd.sizeOf0
  v0 := Tryd.zeroValue0
  t3 := Tryd.underlying3
  a3 := Tryd.isAgg3
  z3 := Tryd.sizeOf3
  v3 := Tryd.zeroValue3
  t4 := Tryd.underlying4
  a4 := Tryd.isAgg4
  z4 := Tryd.sizeOf4
  v4 := Tryd.zeroValue4
  t9 := Tryd.underlying9
  a9 := Tryd.isAgg9
  z9 := Tryd.sizeOf9
  v9 := Tryd.zeroValue9
  t20 := Tryd.underlying20
  a20 := Tryd.isAgg20
  z20 := Tryd.sizeOf20
  v20 := Tryd.zeroValue20
  t31 := Tryd.underlying22
  a31 := Tryd.isAgg22
  z31 := Tryd.sizeOf22
  v31 := Tryd.zeroValue22
  t37 := Tryd.underlying60
  a37 := Tryd.isAgg60
  z37 := Tryd.sizeOf60
  v37 := Tryd.zeroValue60
  t70 := Tryd.underlying59
  a70 := Tryd.isAgg59
  z70 := Tryd.sizeOf59
  v70 := Tryd.zeroValue59
  t72 := Tryd.underlying62
  a72 := Tryd.isAgg62
  z72 := Tryd.sizeOf62
  v72 := Tryd.zeroValue62
  t75 := Tryd.underlying64
  a75 := Tryd.isAgg64
  z75 := Tryd.sizeOf64
  v75 := Tryd.zeroValue64
  t76 := Tryd.underlying65
  a76 := Tryd.isAgg65
  z76 := Tryd.sizeOf65
  v76 := Tryd.zeroValue65
  t127 := Tryd.underlying111
  a127 := Tryd.isAgg111
  z127 := Tryd.sizeOf111
  v127 := Tryd.zeroValue111
  t164 := Tryd.underlying124
  a164 := Tryd.isAgg124
  z164 := Tryd.sizeOf124
  v164 := Tryd.zeroValue124 }
theorem SH.Builder_Extra_156 : Go.Proofs.Builder.Extra Tryd.prog SH.lays156_ren := {
  sizeBuilder := by kernel_rfl
  liesBuilder := by kernel_rfl
  t5 := Tryd.underlying5
  a5 := Tryd.isAgg5
  z5 := Tryd.sizeOf5
  v5 := Tryd.zeroValue5
  infoByte := by kernel_rfl
  cellsByte := by kernel_rfl
  sizeByte := by kernel_rfl
  neB5 := by decide }
open Go.RowKit in
theorem SH.strings_Join_none (a : Option Addr) (c : Nat) (sep : ByteArray) (w : World) :
    Calls Tryd.prog 59 #[.slice a 0 c, .string sep] w fun e w' => e = .returned (.string ⟨#[]⟩) ∧ w' = w := Go.Proofs.Any.strings_Join_none SH.lays156 SH.Builder_Extra_156 a c sep w
open Go.RowKit in
theorem SH.strings_Join (bk o c : Nat) (xs : List ByteArray) (sep : ByteArray) (w : World) (hcells : ∀ (j : Nat) x, xs[j]? = some x → w.cell? ⟨bk, o + j, none⟩ = some (.string x)) (hbk : bk < w.heap.size) (hN : xs.length ≤ 140737488355328) (hcap : xs.length ≤ c) (hlen : (Lib.join (xs.map (·.data.toList)) sep.data.toList).length ≤ 140737488355328) :
    Calls Tryd.prog 59 #[.slice (some ⟨bk, o, none⟩) xs.length c, .string sep] w fun e w' => e = .returned (.string ⟨(Lib.join (xs.map (·.data.toList)) sep.data.toList).toArray⟩) ∧ Below w.heap.size w w' := Go.Proofs.Any.strings_Join SH.lays156 SH.Builder_Extra_156 bk o c xs sep w hcells hbk hN hcap hlen
end Go.Proofs.YtcbckcojebanaaaDoor

/-
  Package ballot: Value, and the join of a list of strings: what they return; only new memory is written.
-/
namespace Go.Proofs.YtcbckcojebanaaaDoor
open Go.RowKit
namespace RW
theorem join_flat : ∀ l : List (List UInt8), Lib.join l [] = l.flatten
  | [] => rfl
  | x :: r => by
    rw [Lib.join_cons, List.flatten_cons, Lib.joinTail]
    congr 1
    rw [show (fun y : List UInt8 => ([] : List UInt8) ++ y) = id from rfl, List.map_id]
theorem ascTo_len : ∀ (l : List (List UInt8)) (p : Option (List UInt8)), ascTo p l = true → ∀ s ∈ l, s.length = 32
  | [], _, _, s, hs => by simp at hs
  | x :: l, none, h, s, hs => by
    rw [ascTo, Bool.and_eq_true] at h
    rcases List.mem_cons.1 hs with rfl | hs
    · simpa using h.1
    · exact ascTo_len l _ h.2 s hs
  | x :: l, some p, h, s, hs => by
    rw [ascTo, Bool.and_eq_true, Bool.and_eq_true] at h
    rcases List.mem_cons.1 hs with rfl | hs
    · simpa using h.1.1
    · exact ascTo_len l _ h.2 s hs
theorem flat_len (k : Nat) : ∀ l : List (List UInt8), (∀ s ∈ l, s.length ≤ k) → l.flatten.length ≤ k * l.length
  | [], _ => by simp
  | x :: l, h => by
    have h1 := flat_len k l (fun s hs => h s (by simp [hs]))
    have h2 := h x (by simp)
    rw [List.flatten_cons, List.length_append, List.length_cons, Nat.mul_succ]
    omega
theorem asc_lims {l : List (List UInt8)} (h : asc l = true) : l.length ≤ 4000 ∧ l.flatten.length ≤ 128000 ∧ ∀ s ∈ l, s.length = 32 := by
  unfold asc at h
  rw [Bool.and_eq_true, decide_eq_true_eq] at h
  have h1 := ascTo_len l none h.1
  have h2 := flat_len 32 l (fun s hs => Nat.le_of_eq (h1 s hs))
  exact ⟨h.2, by omega, h1⟩
theorem bl_len (l : List ByteArray) : (bl l).length = l.length := List.length_map ..
end RW
theorem join_v {W : World} {v : Value} {l : List ByteArray} (h : StrsV W v l) (hl : l.length ≤ 140737488355328) (hf : (RW.bl l).flatten.length ≤ 140737488355328) :
    Calls Tryd.prog 59 #[v, .string ⟨#[]⟩] W fun e w' => e = .returned (.string ⟨(RW.bl l).flatten.toArray⟩) ∧ Below W.heap.size W w' := by
  obtain ⟨a, cap, rfl, hk, h | ⟨b, o, rfl, hb, hc⟩⟩ := h
  · subst h
    exact (SH.strings_Join_none a cap ⟨#[]⟩ W).mono (by rintro e w' ⟨rfl, rfl⟩; exact ⟨rfl, Below.refl _ _⟩)
  · have e : Lib.join (l.map (·.data.toList)) (⟨#[]⟩ : ByteArray).data.toList = (RW.bl l).flatten := RW.join_flat _
    refine (SH.strings_Join b o cap l ⟨#[]⟩ W (fun j x hx => ?_) hb hl hk (by rw [e]; exact hf)).mono ?_
    · have hj : j < l.length := (List.getElem?_eq_some_iff.1 hx).1
      rw [hc j hj, List.getD, hx]
      rfl
    · rw [e]
      rintro e w' h
      exact h
/-- what Value answers -/
def valRes (l : List ByteArray) : Value := if RW.asc (RW.bl l) then .tuple #[.string ⟨(RW.valL (RW.bl l)).toArray⟩, .int .i64 0] else .tuple #[.string ⟨#[]⟩, .int .i64 250]
theorem value_bad {v : Value} {l : List ByteArray} {w : World} (h : StrsV w v l) (hl : l.length ≤ 140737488355328) (ha : RW.asc (RW.bl l) = false) :
    Calls Tryd.prog 26 #[v] w fun e w' => e = .returned (.tuple #[.string ⟨#[]⟩, .int .i64 250]) ∧ Below w.heap.size w w' := by
  have hA := asc_v h hl
  rw [ha] at hA
  have hAH := hide hA
  have hB := hide (Below.refl w.heap.size w)
  clear hA ha h
  go_enter Tryd.func26, Tryd.ntmps26
  go_wp2_with (go_at_call 50; refine hAH.out.mono ?_; rintro e w' ⟨rfl, rfl⟩)
  go_ret2
  exact ⟨rfl, hB.out⟩
theorem value_good {v : Value} {l : List ByteArray} {w : World} (h : StrsV w v l) (hl : l.length ≤ 140737488355328) (ha : RW.asc (RW.bl l) = true) :
    Calls Tryd.prog 26 #[v] w fun e w' => e = .returned (.tuple #[.string ⟨(RW.valL (RW.bl l)).toArray⟩, .int .i64 0]) ∧ Below w.heap.size w w' := by
  obtain ⟨l1, l2, _⟩ := RW.asc_lims ha
  rw [RW.bl_len] at l1
  have hA := asc_v h hl
  rw [ha] at hA
  have hJ : ∀ W, Below w.heap.size w W → Calls Tryd.prog 59 #[v, .string ⟨#[]⟩] W fun e w' => e = .returned (.string ⟨(RW.bl l).flatten.toArray⟩) ∧ Below W.heap.size W w' := fun W hB => join_v (h.next hB) hl (by omega)
  have hP := fun W => putint l.length (by omega) (by omega) W
  have hr : RW.valL (RW.bl l) = RW.putI l.length ++ (RW.bl l).flatten := by unfold RW.valL; rw [RW.bl_len]
  obtain ⟨t, ht⟩ : ∃ t : ByteArray, t = ⟨(RW.bl l).flatten.toArray⟩ := ⟨_, rfl⟩
  obtain ⟨p, hp⟩ : ∃ t : ByteArray, t = ⟨(RW.putI l.length).toArray⟩ := ⟨_, rfl⟩
  have hps : p.size ≤ 10 := by rw [hp]; show (RW.putI l.length).toArray.size ≤ 10; rw [List.size_toArray]; exact RW.putI_len _
  have hts : t.size ≤ 128000 := by rw [ht]; show (RW.bl l).flatten.toArray.size ≤ _; rw [List.size_toArray]; exact l2
  have hsz : p.size + t.size ≤ 9223372036854775807 := by omega
  have hr2 : (⟨(RW.valL (RW.bl l)).toArray⟩ : ByteArray) = ⟨(p.data.toList ++ t.data.toList).toArray⟩ := by rw [hr, hp, ht]
  rw [hr2]
  rw [← ht] at hJ
  rw [← hp] at hP
  have hvl : ∃ a cap, v = .slice a l.length cap := by obtain ⟨a, cap, rfl, _⟩ := h; exact ⟨a, cap, rfl⟩
  obtain ⟨a, cap, rfl⟩ := hvl
  obtain ⟨n, hn⟩ : ∃ n, n = l.length := ⟨_, rfl⟩
  rw [← hn] at hA hJ hP ⊢
  have hAH := hide hA
  have hJH := hide hJ
  have hPH := hide hP
  have hB := hide (Below.refl w.heap.size w)
  clear hA ha h hJ hP hr hr2 ht hp hn hts hps l2
  go_enter Tryd.func26, Tryd.ntmps26
  go_wp2_with (first
    | (go_at_call 50; refine hAH.out.mono ?_; rintro e w' ⟨rfl, rfl⟩)
    | (go_at_call 42; refine (hPH.out _).mono ?_; rintro e w2 ⟨rfl, hB2⟩; have hJ2 := hide (hJH.out _ hB2); have hB2H := hide hB2; clear hB2)
    | (go_at_call 59; refine hJ2.out.mono ?_; rintro e w3 ⟨rfl, hB3⟩; have hB3H := hide hB3; clear hB3))
  go_ret2
  exact ⟨rfl, hB2H.out.trans (hB3H.out.mono hB2H.out.size)⟩
theorem value_any {v : Value} {l : List ByteArray} {w : World} (h : StrsV w v l) (hl : l.length ≤ 140737488355328) :
    Calls Tryd.prog 26 #[v] w fun e w' => e = .returned (valRes l) ∧ Below w.heap.size w w' := by
  unfold valRes
  cases ha : RW.asc (RW.bl l)
  · exact value_bad h hl ha
  · exact value_good h hl ha
end Go.Proofs.YtcbckcojebanaaaDoor

/-
  Ballot, the plain side: validity by kinds: no program in sight.
-/
namespace Go.Proofs.YtcbckcojebanaaaDoor.RW
open Go Go.RowKit
theorem msgB_far {K n : Nat → Int} {d : List UInt8} {l : List (List UInt8)} (h : ¬ (site (n 1) = true ∧ site (n 2) = true ∧ n 1 ≠ n 2)) : msgB K n d l = false := by
  unfold msgB
  rw [Bool.and_eq_false_iff]
  left
  cases h1 : site (n 1)
  · rfl
  · cases h2 : site (n 2)
    · rfl
    · cases h3 : (n 1 != n 2)
      · rfl
      · exact absurd ⟨h1, h2, by simpa using h3⟩ h
theorem msgB_near {K n : Nat → Int} {d : List UInt8} {l : List (List UInt8)} (h : site (n 1) = true ∧ site (n 2) = true ∧ n 1 ≠ n 2) : msgB K n d l =
    (if n 0 = 1 then plainB n d && decide (1 ≤ l.length ∧ l.length ≤ 100) && l.all (fun s => decide (1 ≤ s.length ∧ s.length ≤ 4000))
     else if n 0 = 2 then plainB n d && decide (1 ≤ l.length) && asc l
     else if n 0 = 3 then placedB n && asc l && decide (-1 ≤ n 5 ∧ n 5 < n 4) && (d == sha K (valL l))
     else if voteK (n 0) = true then placedB n && decide (n 5 = 0) && l.isEmpty && (d.isEmpty || d.length == 32)
     else false) := by
  unfold msgB
  rw [h.1, h.2.1, show (n 1 != n 2) = true by simpa using h.2.2]
  rfl
theorem len32 (d : ByteArray) : ((d.size : Int) == 32) = (d.data.toList.length == 32) := by
  rw [Array.length_toList, show d.data.size = d.size from rfl, Bool.eq_iff_iff, beq_iff_eq, beq_iff_eq]
  omega
theorem all_long : ∀ l : List ByteArray, (bl l).all (fun s => decide (1 ≤ s.length ∧ s.length ≤ 4000)) = !(l.any longB)
  | [] => rfl
  | s :: l => by
    have e : decide (1 ≤ s.data.toList.length ∧ s.data.toList.length ≤ 4000) = !(longB s) := by
      unfold longB
      rw [Array.length_toList, show s.data.size = s.size from rfl, ← decide_not]
      exact decide_eq_decide.2 (by omega)
    show (decide (1 ≤ s.data.toList.length ∧ s.data.toList.length ≤ 4000) && (bl l).all _) = _
    rw [all_long l, e, List.any_cons, Bool.not_or]
theorem bl_len' (l : List ByteArray) : (bl l).length = l.length := List.length_map ..
theorem msgB_k1 {K n : Nat → Int} {d : List UInt8} {l : List ByteArray} (h : site (n 1) = true ∧ site (n 2) = true ∧ n 1 ≠ n 2) (k : n 0 = 1) : msgB K n d (bl l) = (plainB n d && decide (1 ≤ l.length ∧ l.length ≤ 100) && !(l.any longB)) := by
  rw [msgB_near h, if_pos k, all_long, bl_len']
theorem msgB_k2 {K n : Nat → Int} {d : List UInt8} {l : List ByteArray} (h : site (n 1) = true ∧ site (n 2) = true ∧ n 1 ≠ n 2) (k : n 0 = 2) : msgB K n d (bl l) = (plainB n d && decide (1 ≤ l.length) && asc (bl l)) := by
  rw [msgB_near h, if_neg (by omega), if_pos k, bl_len']
theorem msgB_k3 {K n : Nat → Int} {d : List UInt8} {l : List ByteArray} (h : site (n 1) = true ∧ site (n 2) = true ∧ n 1 ≠ n 2) (k : n 0 = 3) : msgB K n d (bl l) = (placedB n && asc (bl l) && decide (-1 ≤ n 5 ∧ n 5 < n 4) && (d == sha K (valL (bl l)))) := by
  rw [msgB_near h, if_neg (by omega), if_neg (by omega), if_pos k]
theorem msgB_k4 {K n : Nat → Int} {d : List UInt8} {l : List ByteArray} (h : site (n 1) = true ∧ site (n 2) = true ∧ n 1 ≠ n 2) (k : voteK (n 0) = true) : msgB K n d (bl l) = (placedB n && decide (n 5 = 0) && decide (l.length = 0) && (d.isEmpty || d.length == 32)) := by
  have k' := k
  simp only [voteK, decide_eq_true_eq] at k'
  rw [msgB_near h, if_neg (by omega), if_neg (by omega), if_neg (by omega), if_pos k]
  congr 2
  cases l <;> simp [bl]
theorem msgB_k0 {K n : Nat → Int} {d : List UInt8} {l : List ByteArray} (h : site (n 1) = true ∧ site (n 2) = true ∧ n 1 ≠ n 2) (k1 : n 0 ≠ 1) (k2 : n 0 ≠ 2) (k3 : n 0 ≠ 3) (k : voteK (n 0) = false) : msgB K n d (bl l) = false := by
  rw [msgB_near h, if_neg k1, if_neg k2, if_neg k3, if_neg (by rw [k]; simp)]
end Go.Proofs.YtcbckcojebanaaaDoor.RW

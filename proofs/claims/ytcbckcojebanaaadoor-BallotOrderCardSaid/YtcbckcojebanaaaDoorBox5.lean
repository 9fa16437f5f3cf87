/-
  Package ballot: a box's Most: what it returns; only new memory is written.
-/
import Derived.Test.YtcbckcojebanaaaDoorBox4
import Derived.Test.YtcbckcojebanaaaDoorMK
namespace Go.Proofs.YtcbckcojebanaaaDoor
open Go.RowKit RG
namespace RW
/-- the digest with most votes, of those that have come -/
structure MostOf (cn : ByteArray → Nat) (done : List ByteArray) (best : ByteArray) (most : Nat) : Prop where
  pos : ∀ d ∈ done, 0 < cn d
  one : (best = ⟨#[]⟩ ∧ most = 0 ∧ done = []) ∨ (best ∈ done ∧ most = cn best)
  top : ∀ d ∈ done, cn d < most ∨ (cn d = most ∧ Op.bytesLess d.toList best.toList = false)
theorem MostOf.nil (cn : ByteArray → Nat) : MostOf cn [] ⟨#[]⟩ 0 := ⟨by simp, .inl ⟨rfl, rfl, rfl⟩, by simp⟩
theorem MostOf.most_le {cn : ByteArray → Nat} {done : List ByteArray} {best : ByteArray} {most : Nat} (h : MostOf cn done best most) {N : Nat} (hc : ∀ d, cn d ≤ N) : most ≤ N := by
  rcases h.one with ⟨_, h1, _⟩ | ⟨_, h1⟩
  · omega
  · rw [h1]; exact hc _
theorem MostOf.take {cn : ByteArray → Nat} {done : List ByteArray} {best : ByteArray} {most : Nat} (h : MostOf cn done best most) (d : ByteArray) (hp : 0 < cn d) (hb : most < cn d ∨ (cn d = most ∧ Op.bytesLess d.toList best.toList = true)) : MostOf cn (d :: done) d (cn d) := by
  refine ⟨fun e he => ?_, .inr ⟨by simp, rfl⟩, fun e he => ?_⟩
  · rcases List.mem_cons.1 he with rfl | he
    · exact hp
    · exact h.pos e he
  · rcases List.mem_cons.1 he with rfl | he
    · exact .inr ⟨rfl, bl_irrefl _⟩
    · rcases hb with hb | ⟨hb, hl⟩
      · rcases h.top e he with h1 | ⟨h1, _⟩
        · exact .inl (by omega)
        · exact .inl (by omega)
      · rcases h.top e he with h1 | ⟨h1, h2⟩
        · exact .inl (by omega)
        · exact .inr ⟨by omega, bl_not_trans _ _ _ h2 hl⟩
theorem MostOf.leave {cn : ByteArray → Nat} {done : List ByteArray} {best : ByteArray} {most : Nat} (h : MostOf cn done best most) (d : ByteArray) (hp : 0 < cn d) (hb : ¬ most < cn d) (hl : cn d = most → Op.bytesLess d.toList best.toList = false) : MostOf cn (d :: done) best most := by
  refine ⟨fun e he => ?_, ?_, fun e he => ?_⟩
  · rcases List.mem_cons.1 he with rfl | he
    · exact hp
    · exact h.pos e he
  · rcases h.one with ⟨_, h2, _⟩ | ⟨h1, h2⟩
    · omega
    · exact .inr ⟨List.mem_cons_of_mem _ h1, h2⟩
  · rcases List.mem_cons.1 he with rfl | he
    · rcases Nat.lt_or_ge (cn e) most with h1 | h1
      · exact .inl h1
      · exact .inr ⟨by omega, hl (by omega)⟩
    · exact h.top e he
/-- the digest with most votes -/
def MostSpec (cn : ByteArray → Nat) (best : ByteArray) (most : Nat) : Prop :=
  ((best = ⟨#[]⟩ ∧ most = 0) ∨ (0 < most ∧ most = cn best)) ∧ ∀ d, 0 < cn d → cn d < most ∨ (cn d = most ∧ Op.bytesLess d.toList best.toList = false)
theorem MostOf.spec {cn : ByteArray → Nat} {done : List ByteArray} {best : ByteArray} {most : Nat} (h : MostOf cn done best most) (hall : ∀ d, 0 < cn d → d ∈ done) : MostSpec cn best most := by
  refine ⟨?_, fun d hd => h.top d (hall d hd)⟩
  rcases h.one with ⟨h1, h2, _⟩ | ⟨h1, h2⟩
  · exact .inl ⟨h1, h2⟩
  · exact .inr ⟨by rw [h2]; exact h.pos _ h1, h2⟩
theorem MostSpec.unique {cn : ByteArray → Nat} {b b' : ByteArray} {m m' : Nat} (h : MostSpec cn b m) (h' : MostSpec cn b' m') : b = b' ∧ m = m' := by
  obtain ⟨h1, h2⟩ := h
  obtain ⟨h1', h2'⟩ := h'
  rcases h1 with ⟨a1, a2⟩ | ⟨a1, a2⟩
  · rcases h1' with ⟨c1, c2⟩ | ⟨c1, c2⟩
    · exact ⟨a1.trans c1.symm, a2.trans c2.symm⟩
    · have := h2 b' (by omega); omega
  · rcases h1' with ⟨c1, c2⟩ | ⟨c1, c2⟩
    · have := h2' b (by omega); omega
    · have e1 := h2 b' (by omega)
      have e2 := h2' b (by omega)
      have hm : m = m' := by omega
      have l1 : Op.bytesLess b'.toList b.toList = false := by
        rcases e1 with e | e
        · omega
        · exact e.2
      have l2 : Op.bytesLess b.toList b'.toList = false := by
        rcases e2 with e | e
        · omega
        · exact e.2
      have h3 := bl_total _ _ l2 l1
      refine ⟨?_, hm⟩
      rw [ByteArray.toList_eq, ByteArray.toList_eq] at h3
      cases b with | mk x => cases b' with | mk y => cases x with | mk x => cases y with | mk y => simp at h3; rw [h3]
end RW
set_option maxRecDepth 100000 in
set_option maxHeartbeats 4000000 in
theorem most_of (p : Value) (L : List (RW.Vk × ByteArray)) (N : Nat) (w : World) (kd h r : Int) (hc : Calls Tryd.prog 60 #[p, .int .i64 kd, .int .i64 h, .int .i64 r] w (CountsPost L kd h r N w)) :
    Calls Tryd.prog 33 #[p, .int .i64 kd, .int .i64 h, .int .i64 r] w fun e w' => (∃ (best : ByteArray) (most : Nat), e = .returned (.tuple #[.string best, .int .i64 most]) ∧ RW.MostSpec (fun d => RW.cnt L kd h r d N) best most) ∧ Below w.heap.size w w' := by
  have hcH := hide hc
  clear hc
  obtain ⟨B, hB⟩ : ∃ B, B = w.heap.size := ⟨_, rfl⟩
  obtain ⟨cn, hcn⟩ : ∃ cn, cn = fun d => RW.cnt L kd h r d N := ⟨_, rfl⟩
  rw [← hcn]
  have hBH := hide hB
  have hcnH := hide hcn
  clear hB hcn
  go_enter Tryd.func33, Tryd.ntmps33
  go_wp2_with (go_at_call 60; refine hcH.out.mono ?_; rintro e w2 ⟨M, rfl, hown, hB2, hM⟩; obtain ⟨o, hrg, hit⟩ := hown.range Tryd.underlying96; have hitH := hide hit; have hB2H := hide hB2; have hMH := hide hM; clear hit hB2 hM; have hownH := hide hown; clear hown)
  obtain ⟨it, hie⟩ : ∃ it, it = w2.heap.size := ⟨_, rfl⟩
  have hit := hitH.out
  have hBl0 : Below B w (w2.alloc o) := by rw [hBH.out]; exact hB2H.out.alloc hB2H.out.size o
  have hBit : B ≤ it := by rw [hie, hBH.out]; exact hB2H.out.size
  rw [← hie, ← hBH.out] at hit
  have hnd := hownH.out.nodup
  rw [← hie]
  have hit0 := hide hit
  have hBl0H := hide hBl0
  have hndH := hide hnd
  clear hit hitH hie hownH hrg hBl0 hnd hB2H
  go_loopw [10, 11] (fun b m wr => ∃ (done : List ByteArray) (best : ByteArray) (most : Nat), b = .string best ∧ m = .int .i64 most ∧ KM.IterM RW.strK wr B it M done ∧ Below B w wr ∧ RW.MostOf cn done best most) (fun _ _ wr => KM.leftN wr B it)
  case atStart => exact ⟨[], ⟨#[]⟩, 0, rfl, rfl, hit0.out, hBl0H.out, RW.MostOf.nil cn⟩
  case round =>
    clear hit0 hBl0H
    obtain ⟨done, best, most, rfl, rfl, hit, hBw, hmo⟩ := hrel
    rcases hit.next (P := Tryd.prog) 0 with ⟨hall, hrun⟩ | ⟨⟨dx, vx⟩, hx, hxd, w', hrun, hit', hen, hlt, h1, h2, h3, h4, h5⟩
    · have hsp : RW.MostSpec cn best most := hmo.spec fun d hd => by
        have hg := hMH.out d
        rw [hcnH.out] at hd
        obtain ⟨c, hc⟩ : ∃ c, RW.cnt L kd h r d N = c + 1 := ⟨RW.cnt L kd h r d N - 1, by have : 0 < RW.cnt L kd h r d N := hd; omega⟩
        rw [hc] at hg
        exact hall _ (KM.get_mem hg)
      have hspH := hide hsp
      have hBwH := hide hBw
      clear hsp hall hit hmo hBw
      go_wp2
      go_ret2
      exact ⟨⟨best, most, rfl, hspH.out⟩, by rw [← hBH.out]; exact hBwH.out⟩
    · have hg := hMH.out dx
      rw [KM.get_of_mem hndH.out hx] at hg
      obtain ⟨n, hn⟩ : ∃ n, n = cn dx := ⟨_, rfl⟩
      have hn2 : RW.cnt L kd h r dx N = n := by rw [hn, hcnH.out]
      rw [hn2] at hg
      have hnp : 0 < n := by
        cases n with
        | zero => cases hg
        | succ c => exact Nat.succ_pos c
      have hv : vx = .int .i64 (n : Int) := by
        cases n with
        | zero => cases hg
        | succ c => exact Option.some.inj hg
      subst hv
      have hrun' : (Instr.next (.pointer (some ⟨it, 0, none⟩)) false 0).run Tryd.prog wr = .ok (.tuple #[.bool true, .string dx, .int .i64 (n : Int)]) w' := hrun
      have hen' : (Instr.entry (.pointer (some ⟨it, 0, none⟩))).run Tryd.prog w' = .ok (.tuple #[.string dx, .int .i64 (n : Int)]) w' := hen
      have hBn : Below B w w' := ⟨h1.trans hBw.os, h2.trans hBw.tape, h3.trans hBw.output, by rw [h4]; exact hBw.size, fun k hk => (h5 k (by omega)).trans (hBw.block k hk)⟩
      have hitH := hide hit'
      have hBnH := hide hBn
      have hmoH := hide hmo
      have hltH := hide hlt
      have hnH := hide hn
      clear hrun hen hit hit' hBw hBn hmo hlt hn hn2 hg hx hxd h1 h2 h3 h4 h5
      by_cases g1 : most < n
      · have gi : (most : Int) < (n : Int) := by omega
        have hmo' := hide (hmoH.out.take dx (by rw [← hnH.out]; exact hnp) (.inl (by rw [← hnH.out]; exact g1)))
        clear g1
        go_wp2
        go_roundw
        case rel => exact ⟨dx :: done, dx, n, rfl, rfl, hitH.out, hBnH.out, by rw [hnH.out]; exact hmo'.out⟩
        case measure => exact hltH.out
      · have gi : (n : Int) ≤ (most : Int) := by omega
        by_cases g2 : n = most
        · have ge : ((n : Int) == (most : Int)) = true := by rw [g2]; simp
          cases gl : Op.bytesLess dx.toList best.toList with
          | true =>
            have hmo' := hide (hmoH.out.take dx (by rw [← hnH.out]; exact hnp) (.inr ⟨by rw [← hnH.out]; exact g2, gl⟩))
            have hnm := hide g2
            clear g1 g2
            go_wp2
            go_roundw
            case rel => exact ⟨dx :: done, dx, n, rfl, rfl, hitH.out, hBnH.out, by rw [hnH.out]; exact hmo'.out⟩
            case measure => exact hltH.out
          | false =>
            have hmo' := hide (hmoH.out.leave dx (by rw [← hnH.out]; exact hnp) (by rw [← hnH.out]; exact g1) (fun _ => gl))
            clear g1 g2
            go_wp2
            go_roundw
            case rel => exact ⟨dx :: done, best, most, rfl, rfl, hitH.out, hBnH.out, hmo'.out⟩
            case measure => exact hltH.out
        · have ge : ((n : Int) == (most : Int)) = false := by rw [beq_eq_false_iff_ne]; omega
          have hmo' := hide (hmoH.out.leave dx (by rw [← hnH.out]; exact hnp) (by rw [← hnH.out]; exact g1) (fun g => absurd (by rw [← hnH.out] at g; exact g) g2))
          clear g1 g2
          go_wp2
          go_roundw
          case rel => exact ⟨dx :: done, best, most, rfl, rfl, hitH.out, hBnH.out, hmo'.out⟩
          case measure => exact hltH.out
end Go.Proofs.YtcbckcojebanaaaDoor

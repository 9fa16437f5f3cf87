/-
  Package ballot: a box's counts and Count: what they return; only new memory is written.
-/
import Derived.Test.YtcbckcojebanaaaDoorBox2
namespace Go.Proofs.YtcbckcojebanaaaDoor
open Go.RowKit RG
namespace RW
/-- the vote under a key -/
def voteAt (L : List (Vk × ByteArray)) (k : Vk) : Option ByteArray := (L.find? fun x => decide (x.1 = k)).map (·.2)
theorem get_vote (k : Vk) (L : List (Vk × ByteArray)) : KM.get k (L.map fun x => (x.1, Value.string x.2)) = (voteAt L k).map Value.string := by
  induction L with
  | nil => rfl
  | cons x L ih =>
    rw [List.map_cons, KM.get_cons]
    unfold voteAt
    rw [List.find?_cons]
    by_cases h : k = x.1
    · rw [if_pos h, decide_eq_true h.symm]; rfl
    · rw [if_neg h, decide_eq_false (Ne.symm h)]; exact ih
/-- how many of the first j sites voted for d -/
def cnt (L : List (Vk × ByteArray)) (kd h r : Int) (d : ByteArray) : Nat → Nat
  | 0 => 0
  | j + 1 => cnt L kd h r d j + if voteAt L ((j : Int), kd, h, r) = some d then 1 else 0
theorem cnt_le (L : List (Vk × ByteArray)) (kd h r : Int) (d : ByteArray) : ∀ j, cnt L kd h r d j ≤ j
  | 0 => Nat.le_refl _
  | j + 1 => by
    have := cnt_le L kd h r d j
    rw [cnt]
    split <;> omega
/-- a count as a map's element: none where it is nought -/
def cval : Nat → Option Value
  | 0 => none
  | c + 1 => some (.int .i64 ((c + 1 : Nat) : Int))
theorem cval_get (c : Nat) : (cval c).getD (.int .i64 0) = .int .i64 (c : Int) := by cases c <;> rfl
/-- the map of counts of the first j sites -/
def CntM (L : List (Vk × ByteArray)) (kd h r : Int) (j : Nat) (M : List (ByteArray × Value)) : Prop := ∀ d, KM.get d M = cval (cnt L kd h r d j)
theorem CntM.zero (L : List (Vk × ByteArray)) (kd h r : Int) : CntM L kd h r 0 [] := fun _ => rfl
theorem CntM.none {L : List (Vk × ByteArray)} {kd h r : Int} {j : Nat} {M : List (ByteArray × Value)} (hM : CntM L kd h r j M) (hv : voteAt L ((j : Int), kd, h, r) = none) : CntM L kd h r (j + 1) M := fun d => by
  rw [hM d, cnt, hv, if_neg (by simp), Nat.add_zero]
theorem CntM.some {L : List (Vk × ByteArray)} {kd h r : Int} {j : Nat} {M : List (ByteArray × Value)} (hM : CntM L kd h r j M) {e : ByteArray} (hv : voteAt L ((j : Int), kd, h, r) = some e) :
    CntM L kd h r (j + 1) (KM.put e (.int .i64 ((cnt L kd h r e j : Int) + 1)) M) := fun d => by
  rw [KM.get_put, cnt, hv]
  by_cases hd : d = e
  · subst hd
    rw [if_pos rfl, if_pos rfl]
    rfl
  · rw [if_neg hd, if_neg (fun g => hd (Option.some.inj g).symm), hM d, Nat.add_zero]
def strK (x : ByteArray) : Value := .string x
end RW
theorem strKey : KM.Key Tryd.prog 9 RW.strK := KM.str_key Tryd.underlying9
/-- what counts answers: a new map -/
def CountsPost (L : List (RW.Vk × ByteArray)) (kd h r : Int) (N : Nat) (w : World) (e : Ending) (w' : World) : Prop :=
  ∃ M, e = .returned (.map (some w.heap.size)) ∧ KM.OwnM RW.strK w' w.heap.size M ∧ Below w.heap.size w w' ∧ RW.CntM L kd h r N M
set_option maxRecDepth 100000 in
set_option maxHeartbeats 4000000 in
theorem counts_any (bx mb N : Nat) (L : List (RW.Vk × ByteArray)) (w : World) (hb : BoxAt w bx mb N L) (hN : N ≤ 7) (kd h r : Int) :
    Calls Tryd.prog 60 #[.pointer (some ⟨bx, 0, none⟩), .int .i64 kd, .int .i64 h, .int .i64 r] w (CountsPost L kd h r N w) := by
  have hlt := hb.lt
  have hmk : ∀ W, (Instr.makeMap 96 none).run Tryd.prog W = .ok (.map (some W.heap.size)) (W.alloc (.map #[] 0)) := fun _ => rfl
  have hst : KM.OwnM RW.strK (w.alloc (.map #[] 0)) w.heap.size [] := KM.OwnM.made w
  obtain ⟨B, hB⟩ : ∃ B, B = w.heap.size := ⟨_, rfl⟩
  have hB0 := (Below.refl w.heap.size w).alloc (Nat.le_refl _) (.map #[] 0)
  rw [← hB] at hlt hst hB0
  have hbH := hide hb
  have hltH := hide hlt
  have hstH := hide hst
  have hB0H := hide hB0
  have hBH := hide hB
  clear hb hlt hst hB0 hB
  go_enter Tryd.func60, Tryd.ntmps60
  go_wp2
  rw [← hBH.out]
  go_loopw [10] (fun i wr => ∃ (j : Nat) (M : List (ByteArray × Value)), i = .int .i64 j ∧ j ≤ N ∧ KM.OwnM RW.strK wr B M ∧ Below B w wr ∧ RW.CntM L kd h r j M) (fun i _ => N - (intOf i).toNat)
  case atStart => exact ⟨0, [], rfl, Nat.zero_le _, hstH.out, hB0H.out, RW.CntM.zero L kd h r⟩
  case round =>
    obtain ⟨j, M, rfl, hj, hown, hBw, hM⟩ := hrel
    have hbr : BoxAt wr bx mb N L := hbH.out.keep (hBw.block _ hltH.out.1) (hBw.block _ hltH.out.2)
    have c0 : wr.cell? ⟨bx, 0, none⟩ = some (.int .i64 N) := (cell_at hbr.row 0).trans rfl
    have c1 : wr.cell? ⟨bx, 1, none⟩ = some (.map (some mb)) := (cell_at hbr.row 1).trans rfl
    by_cases hjN : j < N
    · have hlk := KM.OwnM.lookup_ok hbr.own key4 Tryd.underlying88 (z := .string ⟨#[]⟩) (by go_simp) ((j : Int), kd, h, r)
      rw [RW.get_vote] at hlk
      cases hv : RW.voteAt L ((j : Int), kd, h, r) with
      | none =>
        rw [hv] at hlk
        have hlk' : (Instr.lookup 88 (.map (some mb)) (.agg #[.int .i64 j, .int .i64 kd, .int .i64 h, .int .i64 r]) true).run Tryd.prog wr = .ok (.tuple #[.string ⟨#[]⟩, .bool false]) wr := hlk
        have hownH := hide hown
        have hBwH := hide hBw
        have hMH := hide (hM.none hv)
        clear hlk hown hBw hM hbr hv
        go_wp2
        go_roundw
        case rel => exact ⟨j + 1, M, by go_num, by omega, hownH.out, hBwH.out, hMH.out⟩
        case measure => simp [intOf]; omega
      | some e =>
        rw [hv] at hlk
        have hlk' : (Instr.lookup 88 (.map (some mb)) (.agg #[.int .i64 j, .int .i64 kd, .int .i64 h, .int .i64 r]) true).run Tryd.prog wr = .ok (.tuple #[.string e, .bool true]) wr := hlk
        have hl2 := KM.OwnM.lookup hown strKey Tryd.underlying96 (z := .int .i64 0) (by go_simp) e
        rw [hM e, RW.cval_get] at hl2
        obtain ⟨c, hc⟩ : ∃ c, c = RW.cnt L kd h r e j := ⟨_, rfl⟩
        have hM2 := hM.some hv
        have hcb : c ≤ 7 := by rw [hc]; have := RW.cnt_le L kd h r e j; omega
        rw [← hc] at hl2 hM2
        have hl2' : (Instr.lookup 96 (.map (some B)) (.string e) false).run Tryd.prog wr = .ok (.int .i64 c) wr := hl2
        obtain ⟨w6, hup, hown6, h1, h2, h3, h4, h5⟩ := KM.OwnM.update hown strKey Tryd.underlying96 e (.int .i64 ((c : Int) + 1))
        have hup' : (Instr.mapUpdate 96 (.map (some B)) (.string e) (.int .i64 ((c : Int) + 1))).run Tryd.prog wr = .ok () w6 := hup
        have hB6 : Below B w w6 := ⟨h1.trans hBw.os, h2.trans hBw.tape, h3.trans hBw.output, by rw [h4]; exact hBw.size, fun k hk => (h5 k (by omega)).trans (hBw.block k hk)⟩
        have hown6H := hide hown6
        have hB6H := hide hB6
        have hM2H := hide hM2
        clear hlk hown hBw hM hbr hv hl2 hup h1 h2 h3 h4 h5 hB6 hM2 hown6 hc
        go_wp2
        go_roundw
        case rel => exact ⟨j + 1, _, by go_num, by omega, hown6H.out, hB6H.out, hM2H.out⟩
        case measure => simp [intOf]; omega
    · obtain rfl : j = N := by omega
      have hownH := hide hown
      have hBwH := hide hBw
      have hMH := hide hM
      clear hown hBw hM hbr
      go_wp2
      go_ret
      exact ⟨M, by rw [hBH.out] <;> rfl, by rw [← hBH.out]; exact hownH.out, by rw [← hBH.out]; exact hBwH.out, hMH.out⟩
theorem counts_nil (L : List (RW.Vk × ByteArray)) (w : World) (kd h r : Int) :
    Calls Tryd.prog 60 #[.pointer none, .int .i64 kd, .int .i64 h, .int .i64 r] w (CountsPost L kd h r 0 w) := by
  have hmk : ∀ W, (Instr.makeMap 96 none).run Tryd.prog W = .ok (.map (some W.heap.size)) (W.alloc (.map #[] 0)) := fun _ => rfl
  have hst : KM.OwnM RW.strK (w.alloc (.map #[] 0)) w.heap.size [] := KM.OwnM.made w
  have hstH := hide hst
  clear hst
  go_enter Tryd.func60, Tryd.ntmps60
  go_wp2
  refine wp_loop_rounds 1 ?_
  rw [rounds_succ]
  go_wp2
  go_ret
  exact ⟨[], rfl, hstH.out, (Below.refl _ _).alloc (Nat.le_refl _) _, RW.CntM.zero L kd h r⟩
theorem count_of (p : Value) (L : List (RW.Vk × ByteArray)) (N : Nat) (w : World) (kd h r : Int) (d : ByteArray) (hc : ∀ W, W = w → Calls Tryd.prog 60 #[p, .int .i64 kd, .int .i64 h, .int .i64 r] W (CountsPost L kd h r N W)) :
    Calls Tryd.prog 35 #[p, .int .i64 kd, .int .i64 h, .int .i64 r, .string d] w fun e w' => e = .returned (.int .i64 (RW.cnt L kd h r d N)) ∧ Below w.heap.size w w' := by
  have hcH := hide (hc w rfl)
  clear hc
  obtain ⟨c, hcn⟩ : ∃ c, c = RW.cnt L kd h r d N := ⟨_, rfl⟩
  rw [← hcn]
  have hcnH := hide hcn
  clear hcn
  go_enter Tryd.func35, Tryd.ntmps35
  go_wp2_with (go_at_call 60; refine hcH.out.mono ?_; rintro e w2 ⟨M, rfl, hown, hB2, hM⟩; have hl2 := KM.OwnM.lookup hown strKey Tryd.underlying96 (z := .int .i64 0) (by go_simp) d; rw [hM d, RW.cval_get, ← hcnH.out] at hl2; have hl2' : (Instr.lookup 96 (.map (some w.heap.size)) (.string d) false).run Tryd.prog w2 = .ok (.int .i64 c) w2 := hl2; have hB2H := hide hB2; clear hl2 hown hM hB2)
  go_ret
  exact ⟨rfl, hB2H.out⟩
end Go.Proofs.YtcbckcojebanaaaDoor

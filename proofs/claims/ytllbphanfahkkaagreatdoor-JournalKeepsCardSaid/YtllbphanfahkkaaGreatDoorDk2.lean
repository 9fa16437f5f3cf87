/-
  Package disk: check, inside, used: what they return, what they change; copies of strings and of bytes.
-/
import Derived.Test.YtllbphanfahkkaaGreatDoorDk1
namespace Go.Proofs.YtllbphanfahkkaaGreatDoor
open Go.RowKit RG
/-- one block may change, new ones may come -/
structure Chg (b : Nat) (W W' : World) : Prop where
  os : W'.os = W.os
  tape : W'.tape = W.tape
  output : W'.output = W.output
  size : W.heap.size ≤ W'.heap.size
  block : ∀ k, k < W.heap.size → k ≠ b → W'.heap[k]? = W.heap[k]?
theorem Chg.refl (b : Nat) (W : World) : Chg b W W := ⟨rfl, rfl, rfl, Nat.le_refl _, fun _ _ _ => rfl⟩
theorem Chg.trans {b : Nat} {W W' W'' : World} (h : Chg b W W') (g : Chg b W' W'') : Chg b W W'' :=
  ⟨g.os.trans h.os, g.tape.trans h.tape, g.output.trans h.output, Nat.le_trans h.size g.size, fun k hk h1 => (g.block k (Nat.lt_of_lt_of_le hk h.size) h1).trans (h.block k hk h1)⟩
theorem Chg.set {b i : Nat} {W W' : World} (h : Chg b W W') (v : Value) : Chg b W (W'.setCell ⟨b, i, none⟩ v) :=
  h.trans ⟨rfl, rfl, rfl, by simp, fun k _ hk => Below.heap_setCell _ _ _ _ hk⟩
theorem Chg.row {b : Nat} {W W' : World} (h : Chg b W W') (cs : Array Value) : Chg b W (W'.setRow b cs) :=
  h.trans ⟨rfl, rfl, rfl, by simp [World.setRow], fun k _ hk => setRow_else _ _ _ _ hk⟩
theorem Chg.below {b B : Nat} {W W' : World} (h : Chg b W W') (hb : B ≤ b) (hB : B ≤ W.heap.size) : Below B W W' := ⟨h.os, h.tape, h.output, h.size, fun k hk => h.block k (by omega) (by omega)⟩
theorem Chg.new {b : Nat} {W W' : World} (h : Below W.heap.size W W') : Chg b W W' := ⟨h.os, h.tape, h.output, h.size, fun k hk _ => h.block k hk⟩
theorem run_copy_str {P : Program} (w : World) (dT sT ty elem : TypeId) (g o dLen dCap : Nat) (s : ByteArray) (cur : Array Value) (t : TypeId)
    (hu : P.underlying dT = some (.slice elem)) (hs : (P.info? elem).map (·.size) = some 1) (hg : w.heap[g]? = some (.cells cur t (0, 0))) (hn : s.size ≤ dLen) (hfit : o + s.size ≤ cur.size) :
    (Builtin.copy_ #[dT, sT] ty #[.slice (some ⟨g, o, none⟩) dLen dCap, .string s]).run P w = .ok (goInt s.size) (w.setRow g (cur.toList.take o ++ RW.byl s.data.toList ++ cur.toList.drop (o + s.size)).toArray) := by
  have hlen : (RW.byl s.data.toList).length = s.size := by rw [byl_len, Array.length_toList]; rfl
  have hst := run_storeCells_at P g o t (RW.byl s.data.toList) 0 cur w hg (by rw [Nat.add_zero, hlen]; exact hfit) (byl_one _)
  rw [Nat.add_zero, hlen] at hst
  have hmin : Nat.min s.size dLen = s.size := Nat.min_eq_left hn
  have htk : List.take s.size (List.map (fun b : UInt8 => Value.int .u8 (b.toNat : Int)) s.data.toList) = RW.byl s.data.toList := List.take_of_length_le (by rw [← hlen]; exact Nat.le_refl _)
  cases hq : P.info? elem with
  | none => simp [hq] at hs
  | some i =>
    simp [Builtin.copy_, hmin, htk, hst, run_underlying hu, sizeOf, typeInfo, hq, Builtin.firstCells, Builtin.lenOf]
set_option maxHeartbeats 1000000 in
theorem check_nil (w : World) : Calls Tryz.prog 51 #[.pointer none] w fun e w' => e = .returned (.int .i64 1) ∧ w = w' := by
  go_enter Tryz.func51, Tryz.ntmps51
  go_wp2
  go_ret
  exact ⟨rfl, rfl⟩
set_option maxHeartbeats 1000000 in
theorem check_any (b : Nat) (off : Bool) (left : Int) (dv vv pv : Value) (w : World) (hr : w.heap[b]? = some (.cells (RW.dkl off left dv vv pv) 108 (0, 0))) :
    Calls Tryz.prog 51 #[.pointer (some ⟨b, 0, none⟩)] w fun e w' => e = .returned (.int .i64 (if off then 221 else 0)) ∧ w = w' := by
  have c0 : w.cell? ⟨b, 0, none⟩ = some (.bool off) := cellAt hr 0
  clear hr
  cases off
  · go_enter Tryz.func51, Tryz.ntmps51
    go_wp2
    go_ret
    exact ⟨rfl, rfl⟩
  · go_enter Tryz.func51, Tryz.ntmps51
    go_wp2
    go_ret
    exact ⟨rfl, rfl⟩
set_option maxHeartbeats 1000000 in
theorem inside_any (b : Nat) (off : Bool) (left : Int) (p : Option Addr) (n c : Nat) (vv pv : Value) (o k : Int) (w : World) (hr : w.heap[b]? = some (.cells (RW.dkl off left (.slice p n c) vv pv) 108 (0, 0))) (hn : n ≤ 4194304) :
    Calls Tryz.prog 52 #[.pointer (some ⟨b, 0, none⟩), .int .i64 o, .int .i64 k] w fun e w' => e = .returned (.bool (RW.insB n o k)) ∧ w = w' := by
  have c2 : w.cell? ⟨b, 2, none⟩ = some (.slice p n c) := cellAt hr 2
  have hI := RW.insB_iff n o k
  obtain ⟨q, hq⟩ : ∃ q, q = RW.insB n o k := ⟨_, rfl⟩
  rw [← hq] at hI ⊢
  have no : ¬ (0 ≤ o ∧ 0 ≤ k ∧ o ≤ n ∧ k ≤ n - o) → q = false := fun h => Bool.eq_false_iff.2 fun h' => h (hI.1 h')
  clear hr hq
  by_cases h1 : 0 ≤ o
  · by_cases h2 : 0 ≤ k
    · by_cases h3 : o ≤ n
      · by_cases h4 : k ≤ n - o
        · have e := hide (hI.2 ⟨h1, h2, h3, h4⟩)
          clear no hI
          go_enter Tryz.func52, Tryz.ntmps52
          go_wp2
          go_ret
          exact ⟨by rw [e.out] <;> rfl, rfl⟩
        · have e := hide (no fun h => h4 h.2.2.2)
          clear no hI
          go_enter Tryz.func52, Tryz.ntmps52
          go_wp2
          go_ret
          exact ⟨by rw [e.out] <;> rfl, rfl⟩
      · have e := hide (no fun h => h3 h.2.2.1)
        clear no hI
        go_enter Tryz.func52, Tryz.ntmps52
        go_wp2
        go_ret
        exact ⟨by rw [e.out] <;> rfl, rfl⟩
    · have e := hide (no fun h => h2 h.2.1)
      clear no hI
      go_enter Tryz.func52, Tryz.ntmps52
      go_wp2
      go_ret
      exact ⟨by rw [e.out] <;> rfl, rfl⟩
  · have e := hide (no fun h => h1 h.1)
    clear no hI
    go_enter Tryz.func52, Tryz.ntmps52
    go_wp2
    go_ret
    exact ⟨by rw [e.out] <;> rfl, rfl⟩
set_option maxHeartbeats 1000000 in
theorem used_any (b : Nat) (off : Bool) (left : Nat) (dv vv pv : Value) (w : World) (hl : (left : Int) ≤ 9223372036854775807) (hr : w.heap[b]? = some (.cells (RW.dkl off left dv vv pv) 108 (0, 0))) :
    Calls Tryz.prog 54 #[.pointer (some ⟨b, 0, none⟩)] w fun e w' => (∃ v, e = .returned v) ∧ w'.heap[b]? = some (.cells (RW.dkl (RW.used off left).1 ((RW.used off left).2 : Nat) dv vv pv) 108 (0, 0)) ∧ Chg b w w' := by
  have c0 : w.cell? ⟨b, 0, none⟩ = some (.bool off) := cellAt hr 0
  have c1 : w.cell? ⟨b, 1, none⟩ = some (.int .i64 (left : Int)) := cellAt hr 1
  have f0 : w.frozen? ⟨b, 0, none⟩ = false := by simp [World.frozen?, hr]
  have f1 : w.frozen? ⟨b, 1, none⟩ = false := by simp [World.frozen?, hr]
  have hrH := hide hr
  clear hr
  cases left with
  | zero =>
    have c1' : w.cell? ⟨b, 1, none⟩ = some (.int .i64 0) := c1
    clear c1
    go_enter Tryz.func54, Tryz.ntmps54
    go_wp2
    refine bodyPost_ret (results_none rfl _ _ _) rfl ?_
    exact ⟨⟨_, rfl⟩, hrH.out, Chg.refl _ _⟩
  | succ m =>
    obtain ⟨k, hk⟩ : ∃ k : Int, k = ((m + 1 : Nat) : Int) := ⟨_, rfl⟩
    rw [← hk] at c1 hl
    have h0 : (k == 0) = false := by rw [beq_eq_false_iff_ne]; omega
    have h1 : 1 ≤ k := by omega
    have hkm := hide (show k - 1 = (m : Int) by omega)
    have hrk := hide (hk ▸ hrH.out : w.heap[b]? = some (.cells (RW.dkl off k dv vv pv) 108 (0, 0)))
    clear hk hrH
    go_enter Tryz.func54, Tryz.ntmps54
    go_wp2
    go_end0
    refine ⟨⟨_, rfl⟩, ?_, ((Chg.refl b w).set _).set _⟩
    refine (heap_setCell_same _ _ _ _ _ _ (heap_setCell_same _ _ _ _ _ _ hrk.out)).trans ?_
    rw [show RW.used off (m + 1) = (decide (m = 0), m) by simp [RW.used], hkm.out]
    have hb : ((m : Int) == 0) = decide (m = 0) := by
      by_cases h : m = 0
      · subst h; rfl
      · rw [decide_eq_false h, beq_eq_false_iff_ne]; omega
    rw [hb]
    rfl
end Go.Proofs.YtllbphanfahkkaaGreatDoor

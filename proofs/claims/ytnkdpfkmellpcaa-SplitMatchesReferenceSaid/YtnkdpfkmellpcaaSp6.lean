/-
  Packages royaltyref12, split: SameParts, Same: what they return; only new memory is written.
-/
import Derived.Laws.StructEq
import Derived.Test.YtnkdpfkmellpcaaSp5
namespace Go.Proofs.Ytnkdpfkmellpcaa
open Go.RowKit
theorem eq_part (x y : RW.Pt) (w : World) : (Op.equal 39 (.agg (RW.pcl x).toArray) (.agg (RW.pcl y).toArray)).run Try.prog w = .ok (decide (x = y)) w := by
  obtain ⟨a0, a1⟩ := x
  obtain ⟨b0, b1⟩ := y
  have hu : Try.prog.underlying 39 = some (.struct (Try.prog.fieldsOf 39)) := by kernel_rfl
  have hst : Try.prog.stoodInHeld 39 = false := by kernel_rfl
  have e : ∀ x y : Int, (Op.equalIn 9999 3 (.int .i64 x) (.int .i64 y)).run Try.prog w = .ok (x == y) w := fun x y => run_equalIn_int w 9998 3 .i64 .i64 x y Try.underlying3
  have hf : (Try.prog.fieldsOf 39).toList.map (fun f => (f.name == "_", f.type, f.offset)) = [(false, 3, 0), (false, 3, 1)] := by kernel_rfl
  show (Op.equalIn (9999 + 1) 39 _ _).run Try.prog w = _
  unfold RW.pcl
  rw [run_equalIn_struct w 9999 _ _ _ hu hst]
  generalize (Try.prog.fieldsOf 39).toList = fs at hf
  rcases fs with _ | ⟨f0, _ | ⟨f1, _ | ⟨f2, fl⟩⟩⟩ <;> simp only [List.map_cons, List.map_nil, List.cons.injEq, Prod.mk.injEq, beq_eq_false_iff_ne, and_true, and_false, List.nil_eq, List.cons_ne_nil] at hf
  obtain ⟨⟨n0, t0, o0⟩, n1, t1, o1⟩ := hf
  have hp : ∀ (X : Array Value) (i : Nat) (v : Value), X[i]? = some v → (part 3 X i).run Try.prog w = .ok v w := fun X i v h => by
    simp [part, isAgg, run_underlying Try.underlying3, h]
  have p0 := hp #[.int .i64 a0, .int .i64 a1] 0 (.int .i64 a0) rfl
  have p1 := hp #[.int .i64 a0, .int .i64 a1] 1 (.int .i64 a1) rfl
  have q0 := hp #[.int .i64 b0, .int .i64 b1] 0 (.int .i64 b0) rfl
  have q1 := hp #[.int .i64 b0, .int .i64 b1] 1 (.int .i64 b1) rfl
  show (Op.eqFields 9999 #[.int .i64 a0, .int .i64 a1] #[.int .i64 b0, .int .i64 b1] [f0, f1]).run Try.prog w = _
  generalize #[Value.int .i64 a0, Value.int .i64 a1] = X at p0 p1 ⊢
  generalize #[Value.int .i64 b0, Value.int .i64 b1] = Y at q0 q1 ⊢
  simp only [Op.eqFields, n0, n1, t0, t1, o0, o1, ne_eq, not_false_eq_true, if_true, Sem.run_bind, p0, q0, Result.andThen_ok, e]
  by_cases g0 : a0 = b0
  · by_cases g1 : a1 = b1
    · simp [g0, g1, p1, q1, e]
    · simp [g0, g1, p1, q1, e]
  · simp [g0]
theorem neq_part (x y : RW.Pt) (w : World) : (binOp .neq 39 (.agg (RW.pcl x).toArray) (.agg (RW.pcl y).toArray)).run Try.prog w = .ok (.bool (!decide (x = y))) w := by
  simp only [binOp, Sem.run_bind, eq_part, Result.andThen_ok, Sem.run_pure]
theorem ldRow_part (x : Value) : Instr.loadAt 39 x = ldRow 39 x := rfl
attribute [local go_sem ↓] ldRow_part
theorem part_ld {W : World} {b o : Nat} {x : RW.Pt} (h : W.rangeAt b o (RW.pcl x)) (n : Nat) : (ldRow 39 (.pointer (some ⟨b, o, none⟩))).run Try.prog (W.drewN n) = .ok (.agg (RW.pcl x).toArray) (W.drewN n) :=
  ldRow_mid (W := W.drewN n) h Try.underlying39 rfl (part_size x)
namespace RW
theorem take_eqP (l m : List Pt) (k : Nat) (x : Pt) (h1 : l[k]? = some x) (h2 : m[k]? = some x) (he : l.take k = m.take k) : l.take (k + 1) = m.take (k + 1) := by
  rw [List.take_add_one, List.take_add_one, he, h1, h2]
theorem ne_of_get {l m : List Pt} {k : Nat} {x y : Pt} (h1 : l[k]? = some x) (h2 : m[k]? = some y) (h : x ≠ y) : decide (l = m) = false := decide_eq_false fun e => h (Option.some.inj (h1.symm.trans (e ▸ h2)))
end RW
set_option maxRecDepth 10000 in
set_option maxHeartbeats 2000000 in
theorem same_parts (v u : Value) (l m : List RW.Pt) (hl : l.length ≤ 1000000) (hm : m.length ≤ 1000000) (w : World) (hv : PartsV w v l) (hu : PartsV w u m) :
    Calls Try.prog 13 #[v, u] w fun e w' => e = .returned (.bool (decide (l = m))) ∧ Below w.heap.size w w' := by
  obtain ⟨a, ca, rfl, _, ha⟩ := hv
  obtain ⟨b, cb, rfl, _, hb⟩ := hu
  have haH := hide ha
  have hbH := hide hb
  obtain ⟨q, hq⟩ : ∃ q, q = decide (l = m) := ⟨_, rfl⟩
  rw [← hq]
  have hqH := hide hq
  obtain ⟨n, hn⟩ : ∃ n, n = l.length := ⟨_, rfl⟩
  obtain ⟨k, hk⟩ : ∃ k, k = m.length := ⟨_, rfl⟩
  rw [← hn] at hl ⊢
  rw [← hk] at hm ⊢
  have hnH := hide hn
  have hkH := hide hk
  clear ha hb hq hn hk
  by_cases hne : n = k
  · subst hne
    go_enter Try.func13, Try.ntmps13
    go_wp2
    go_loopw [5] (fun i wr => ∃ j : Nat, j ≤ n ∧ i = .int .i64 j ∧ Hid (l.take j = m.take j ∧ Below w.heap.size w wr)) (fun i _ => n - (intOf i).toNat)
    case atStart => exact ⟨0, Nat.zero_le _, rfl, rfl, Below.refl _ _⟩
    case round =>
      obtain ⟨j, hj, rfl, hP⟩ := hrel
      by_cases hlt : j < n
      · obtain ⟨x, hx⟩ : ∃ x, l[j]? = some x := ⟨_, List.getElem?_eq_getElem (by rw [← hnH.out]; exact hlt)⟩
        obtain ⟨y, hy⟩ : ∃ y, m[j]? = some y := ⟨_, List.getElem?_eq_getElem (by rw [← hkH.out]; exact hlt)⟩
        obtain ⟨b1, o1, rfl, hb1, hc1⟩ := haH.out.resolve_left (by rintro rfl; have := hnH.out; simp at this; omega)
        obtain ⟨b2, o2, rfl, hb2, hc2⟩ := hbH.out.resolve_left (by rintro rfl; have := hkH.out; simp at this; omega)
        have hr1 : wr.rangeAt b1 (o1 + j * 2) (RW.pcl x) := fun i u hu => (World.cell?_of_block (a := ⟨b1, o1 + j * 2 + i, none⟩) (hP.out.2.block _ hb1)).trans (hc1 j x hx i u hu)
        have hr2 : wr.rangeAt b2 (o2 + j * 2) (RW.pcl y) := fun i u hu => (World.cell?_of_block (a := ⟨b2, o2 + j * 2 + i, none⟩) (hP.out.2.block _ hb2)).trans (hc2 j y hy i u hu)
        have hl1 := part_ld hr1
        have hl2 := part_ld hr2
        have hneq := fun W => neq_part x y W
        obtain ⟨X, hX⟩ : ∃ X, X = (RW.pcl x).toArray := ⟨_, rfl⟩
        obtain ⟨Y, hY⟩ : ∃ Y, Y = (RW.pcl y).toArray := ⟨_, rfl⟩
        rw [← hX] at hl1 hneq
        rw [← hY] at hl2 hneq
        have hxH := hide hx
        have hyH := hide hy
        clear hX hY hx hy hb1 hb2 hc1 hc2 hr1 hr2
        by_cases he : x = y
        · rw [decide_eq_true he] at hneq
          have heH := hide he
          clear he
          go_wp2
          go_quiet (fail)
          go_wp2
          go_roundw
          case rel => exact ⟨j + 1, by omega, by go_num, RW.take_eqP l m j x hxH.out (heH.out ▸ hyH.out) hP.out.1, ⟨hP.out.2.os, hP.out.2.tape, hP.out.2.output, hP.out.2.size, hP.out.2.block⟩⟩
          case measure => simp [intOf]; omega
        · rw [decide_eq_false he] at hneq
          have heH := hide he
          clear he
          go_wp2
          go_quiet (fail)
          go_wp2
          go_ret
          exact ⟨by rw [hqH.out, RW.ne_of_get hxH.out hyH.out heH.out] <;> rfl, ⟨hP.out.2.os, hP.out.2.tape, hP.out.2.output, hP.out.2.size, hP.out.2.block⟩⟩
      · obtain rfl : j = n := by omega
        have hA : l = m := by
          have h1 := hP.out.1
          rwa [List.take_of_length_le (by rw [hnH.out]; exact Nat.le_refl _), List.take_of_length_le (by rw [hkH.out]; exact Nat.le_refl _)] at h1
        have hAH := hide (show q = true by rw [hqH.out]; exact decide_eq_true hA)
        clear hA
        go_wp2
        go_ret
        exact ⟨by rw [hAH.out] <;> rfl, hP.out.2⟩
  · have e1 : ((n : Int) != (k : Int)) = true := by simp; omega
    have e2 : (n != k) = true := by simp; omega
    have hF := hide (show q = false by rw [hqH.out]; exact decide_eq_false fun h => hne (by rw [hnH.out, hkH.out, h]))
    clear hne
    go_enter Try.func13, Try.ntmps13
    go_wp2
    go_ret
    exact ⟨by rw [hF.out] <;> rfl, Below.refl _ _⟩
set_option maxRecDepth 10000 in
set_option maxHeartbeats 2000000 in
/-- the reference's Same -/
theorem rsame_any (v u : Value) (l m : List RW.Pt) (c d e f : Int) (hl : l.length ≤ 1000000) (hm : m.length ≤ 1000000) (w : World) (hv : PartsV w v l) (hu : PartsV w u m) :
    Calls Try.prog 16 #[.agg (RW.scl v c e), .agg (RW.scl u d f)] w fun e' w' => e' = .returned (.bool (decide ((l, c, e) = ((m, d, f) : RW.Sh)))) ∧ Below w.heap.size w w' := by
  obtain ⟨a, ca, rfl, hca, ha⟩ := hv
  obtain ⟨b, cb, rfl, hcb, hb⟩ := hu
  have hv' : PartsV w (.slice a l.length ca) l := ⟨a, ca, rfl, hca, ha⟩
  have hu' : PartsV w (.slice b m.length cb) m := ⟨b, cb, rfl, hcb, hb⟩
  have hB := ((Below.refl w.heap.size w).alloc (Nat.le_refl _) (.cells (RW.scl (.slice a l.length ca) c e) 32)).alloc (by simp) (.cells (RW.scl (.slice b m.length cb) d f) 32)
  have hS := hide (same_parts _ _ l m hl hm _ (hv'.next hB) (hu'.next hB))
  have hdec : decide ((l, c, e) = ((m, d, f) : RW.Sh)) = (decide (l = m) && (decide (c = d) && decide (e = f))) := by
    simp [Prod.ext_iff]
  rw [hdec]
  obtain ⟨q, hq⟩ : ∃ q, q = decide (l = m) := ⟨_, rfl⟩
  rw [← hq] at hS ⊢
  obtain ⟨W0, hW0⟩ : ∃ W0, W0 = (w.alloc (.cells (RW.scl (.slice a l.length ca) c e) 32)).alloc (.cells (RW.scl (.slice b m.length cb) d f) 32) := ⟨_, rfl⟩
  have h1 : W0.heap[w.heap.size]? = some (.cells (RW.scl (.slice a l.length ca) c e) 32 (0, 0)) := by rw [hW0]; exact (Below.heap_alloc _ _ _ (by simp)).trans (newAt rfl)
  have h2 : W0.heap[w.heap.size + 1]? = some (.cells (RW.scl (.slice b m.length cb) d f) 32 (0, 0)) := by rw [hW0]; exact newAt (by simp)
  have hBH := hide hB
  rw [← hW0] at hS hBH
  obtain ⟨r, hr⟩ : ∃ r, r = w.heap.size := ⟨_, rfl⟩
  have hrH := hide hr
  rw [← hr] at h1 h2 hBH
  have c0 : W0.cell? ⟨r, 0, none⟩ = some (.slice a l.length ca) := (cellAt h1 0).trans rfl
  have d0 : W0.cell? ⟨r + 1, 0, none⟩ = some (.slice b m.length cb) := (cellAt h2 0).trans rfl
  have h1H := hide h1
  have h2H := hide h2
  have hW0H := hide hW0
  clear hq hB hv' hu' ha hb hca hcb h1 h2 hdec hr hW0
  go_enter Try.func16, Try.ntmps16
  go_upto_region 1 with fail
  rw [← hW0H.out, ← hrH.out]
  have hE : ∀ w2, Below W0.heap.size W0 w2 → Below r w w2 := fun w2 h => hBH.out.trans (h.mono (Nat.le_of_lt (Array.getElem?_eq_some_iff.1 h1H.out).1))
  have hEH := hide hE
  clear hE
  cases q
  · go_wp2_with (go_at_call 13; refine hS.out.mono ?_; rintro e w2 ⟨rfl, hB2⟩; have k1 := (hB2.block r (Array.getElem?_eq_some_iff.1 h1H.out).1).trans h1H.out; have k2 := (hB2.block (r + 1) (Array.getElem?_eq_some_iff.1 h2H.out).1).trans h2H.out; have c1 := (cellAt k1 1).trans (rfl : _ = some (Value.int .i64 c)); have c2 := (cellAt k1 2).trans (rfl : _ = some (Value.int .i64 e)); have d1 := (cellAt k2 1).trans (rfl : _ = some (Value.int .i64 d)); have d2 := (cellAt k2 2).trans (rfl : _ = some (Value.int .i64 f)); have hB2H := hide hB2; clear hB2 k1 k2)
    go_ret
    exact ⟨by simp, hrH.out ▸ hEH.out _ hB2H.out⟩
  · by_cases g1 : c = d
    · have g1H := hide (decide_eq_true g1)
      have g1' : (c == d) = true := by simp [g1]
      clear g1
      by_cases g2 : e = f
      · have g2H := hide (decide_eq_true g2)
        have g2' : (e == f) = true := by simp [g2]
        clear g2
        go_wp2_with (go_at_call 13; refine hS.out.mono ?_; rintro e w2 ⟨rfl, hB2⟩; have k1 := (hB2.block r (Array.getElem?_eq_some_iff.1 h1H.out).1).trans h1H.out; have k2 := (hB2.block (r + 1) (Array.getElem?_eq_some_iff.1 h2H.out).1).trans h2H.out; have c1 := (cellAt k1 1).trans (rfl : _ = some (Value.int .i64 c)); have c2 := (cellAt k1 2).trans (rfl : _ = some (Value.int .i64 e)); have d1 := (cellAt k2 1).trans (rfl : _ = some (Value.int .i64 d)); have d2 := (cellAt k2 2).trans (rfl : _ = some (Value.int .i64 f)); have hB2H := hide hB2; clear hB2 k1 k2)
        go_ret
        exact ⟨by rw [g1H.out, g2H.out] <;> rfl, hrH.out ▸ hEH.out _ hB2H.out⟩
      · have g2H := hide (decide_eq_false g2)
        have g2' : (e == f) = false := by simp [g2]
        clear g2
        go_wp2_with (go_at_call 13; refine hS.out.mono ?_; rintro e w2 ⟨rfl, hB2⟩; have k1 := (hB2.block r (Array.getElem?_eq_some_iff.1 h1H.out).1).trans h1H.out; have k2 := (hB2.block (r + 1) (Array.getElem?_eq_some_iff.1 h2H.out).1).trans h2H.out; have c1 := (cellAt k1 1).trans (rfl : _ = some (Value.int .i64 c)); have c2 := (cellAt k1 2).trans (rfl : _ = some (Value.int .i64 e)); have d1 := (cellAt k2 1).trans (rfl : _ = some (Value.int .i64 d)); have d2 := (cellAt k2 2).trans (rfl : _ = some (Value.int .i64 f)); have hB2H := hide hB2; clear hB2 k1 k2)
        go_ret
        exact ⟨by rw [g1H.out, g2H.out] <;> rfl, hrH.out ▸ hEH.out _ hB2H.out⟩
    · have g1H := hide (decide_eq_false g1)
      have g1' : (c == d) = false := by simp [g1]
      clear g1
      go_wp2_with (go_at_call 13; refine hS.out.mono ?_; rintro e w2 ⟨rfl, hB2⟩; have k1 := (hB2.block r (Array.getElem?_eq_some_iff.1 h1H.out).1).trans h1H.out; have k2 := (hB2.block (r + 1) (Array.getElem?_eq_some_iff.1 h2H.out).1).trans h2H.out; have c1 := (cellAt k1 1).trans (rfl : _ = some (Value.int .i64 c)); have c2 := (cellAt k1 2).trans (rfl : _ = some (Value.int .i64 e)); have d1 := (cellAt k2 1).trans (rfl : _ = some (Value.int .i64 d)); have d2 := (cellAt k2 2).trans (rfl : _ = some (Value.int .i64 f)); have hB2H := hide hB2; clear hB2 k1 k2)
      go_ret
      exact ⟨by rw [g1H.out] <;> rfl, hrH.out ▸ hEH.out _ hB2H.out⟩
end Go.Proofs.Ytnkdpfkmellpcaa

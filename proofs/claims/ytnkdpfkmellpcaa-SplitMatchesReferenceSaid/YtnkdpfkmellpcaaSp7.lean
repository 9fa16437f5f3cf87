/-
  Package split: Same: what it returns; only new memory is written.
-/
import Derived.Test.YtnkdpfkmellpcaaSp6
namespace Go.Proofs.Ytnkdpfkmellpcaa
open Go.RowKit
attribute [local go_sem ↓] ldRow_part
set_option maxRecDepth 10000 in
set_option maxHeartbeats 4000000 in
theorem ssame_any (v u : Value) (l m : List RW.Pt) (c d e f : Int) (hl : l.length ≤ 1000000) (hm : m.length ≤ 1000000) (w : World) (hv : PartsV w v l) (hu : PartsV w u m) :
    Calls Try.prog 22 #[.agg (RW.scl v c e), .agg (RW.scl u d f)] w fun e' w' => e' = .returned (.bool (decide ((l, c, e) = ((m, d, f) : RW.Sh)))) ∧ Below w.heap.size w w' := by
  obtain ⟨a, ca, rfl, hca, ha⟩ := hv
  obtain ⟨b, cb, rfl, hcb, hb⟩ := hu
  have haH := hide ha
  have hbH := hide hb
  have hB := ((Below.refl w.heap.size w).alloc (Nat.le_refl _) (.cells (RW.scl (.slice a l.length ca) c e) 32)).alloc (by simp) (.cells (RW.scl (.slice b m.length cb) d f) 32)
  have hdec : decide ((l, c, e) = ((m, d, f) : RW.Sh)) = (decide (l = m) && (decide (c = d) && decide (e = f))) := by
    simp [Prod.ext_iff]
  rw [hdec]
  obtain ⟨q, hq⟩ : ∃ q, q = decide (l = m) := ⟨_, rfl⟩
  rw [← hq]
  have hqH := hide hq
  obtain ⟨n, hn⟩ : ∃ n, n = l.length := ⟨_, rfl⟩
  obtain ⟨k, hk⟩ : ∃ k, k = m.length := ⟨_, rfl⟩
  rw [← hn] at hl hB ⊢
  rw [← hk] at hm hB ⊢
  have hnH := hide hn
  have hkH := hide hk
  obtain ⟨W0, hW0⟩ : ∃ W0, W0 = (w.alloc (.cells (RW.scl (.slice a n ca) c e) 32)).alloc (.cells (RW.scl (.slice b k cb) d f) 32) := ⟨_, rfl⟩
  have h1 : W0.heap[w.heap.size]? = some (.cells (RW.scl (.slice a n ca) c e) 32 (0, 0)) := by rw [hW0]; exact (Below.heap_alloc _ _ _ (by simp)).trans (newAt rfl)
  have h2 : W0.heap[w.heap.size + 1]? = some (.cells (RW.scl (.slice b k cb) d f) 32 (0, 0)) := by rw [hW0]; exact newAt (by simp)
  have hBH := hide hB
  rw [← hW0] at hBH
  obtain ⟨r, hr⟩ : ∃ r, r = w.heap.size := ⟨_, rfl⟩
  have hrH := hide hr
  rw [← hr] at h1 h2 hBH
  have c0 : W0.cell? ⟨r, 0, none⟩ = some (.slice a n ca) := (cellAt h1 0).trans rfl
  have d0 : W0.cell? ⟨r + 1, 0, none⟩ = some (.slice b k cb) := (cellAt h2 0).trans rfl
  have c1 : W0.cell? ⟨r, 1, none⟩ = some (.int .i64 c) := (cellAt h1 1).trans rfl
  have d1 : W0.cell? ⟨r + 1, 1, none⟩ = some (.int .i64 d) := (cellAt h2 1).trans rfl
  have c2 : W0.cell? ⟨r, 2, none⟩ = some (.int .i64 e) := (cellAt h1 2).trans rfl
  have d2 : W0.cell? ⟨r + 1, 2, none⟩ = some (.int .i64 f) := (cellAt h2 2).trans rfl
  have h1H := hide h1
  have h2H := hide h2
  have hW0H := hide hW0
  have hE : ∀ w2, Below W0.heap.size W0 w2 → Below w.heap.size w w2 := fun w2 h => hrH.out ▸ hBH.out.trans (h.mono (Nat.le_of_lt (Array.getElem?_eq_some_iff.1 h1H.out).1))
  have hEH := hide hE
  clear ha hb hq hn hk hdec h1 h2 hr hW0 hB hE
  go_enter Try.func22, Try.ntmps22
  go_upto_region 1 with fail
  rw [← hW0H.out, ← hrH.out]
  by_cases g1 : c = d
  · have g1H := hide (decide_eq_true g1)
    have g1' : (c == d) = true := by simp [g1]
    have g1n : (c != d) = false := by simp [g1]
    clear g1
    by_cases g2 : e = f
    · have g2H := hide (decide_eq_true g2)
      have g2' : (e == f) = true := by simp [g2]
      have g2n : (e != f) = false := by simp [g2]
      clear g2
      by_cases hne : n = k
      · subst hne
        go_wp2
        go_loopw [31] (fun i wr => ∃ j : Nat, j ≤ n ∧ i = .int .i64 j ∧ Hid (l.take j = m.take j ∧ Below W0.heap.size W0 wr)) (fun i _ => n - (intOf i).toNat)
        case atStart => exact ⟨0, Nat.zero_le _, rfl, rfl, Below.refl _ _⟩
        case round =>
          obtain ⟨j, hj, rfl, hP⟩ := hrel
          by_cases hlt : j < n
          · obtain ⟨x, hx⟩ : ∃ x, l[j]? = some x := ⟨_, List.getElem?_eq_getElem (by rw [← hnH.out]; exact hlt)⟩
            obtain ⟨y, hy⟩ : ∃ y, m[j]? = some y := ⟨_, List.getElem?_eq_getElem (by rw [← hkH.out]; exact hlt)⟩
            obtain ⟨b1, o1, rfl, hb1, hc1⟩ := haH.out.resolve_left (by rintro rfl; have := hnH.out; simp at this; omega)
            obtain ⟨b2, o2, rfl, hb2, hc2⟩ := hbH.out.resolve_left (by rintro rfl; have := hkH.out; simp at this; omega)
            have hsz : w.heap.size ≤ W0.heap.size := hBH.out.size
            have hBw : Below w.heap.size w wr := hrH.out ▸ hBH.out.trans (hP.out.2.mono (by rw [hrH.out]; exact hsz))
            have hr1 : wr.rangeAt b1 (o1 + j * 2) (RW.pcl x) := fun i u hu => (World.cell?_of_block (a := ⟨b1, o1 + j * 2 + i, none⟩) (hBw.block _ hb1)).trans (hc1 j x hx i u hu)
            have hr2 : wr.rangeAt b2 (o2 + j * 2) (RW.pcl y) := fun i u hu => (World.cell?_of_block (a := ⟨b2, o2 + j * 2 + i, none⟩) (hBw.block _ hb2)).trans (hc2 j y hy i u hu)
            have hx0 : (wr.alloc (.cells (RW.pcl x).toArray 39)).rangeAt wr.heap.size 0 (RW.pcl x) := fun i u hu => by rw [Nat.zero_add, cellAt (newAt rfl)]; simpa using hu
            have hl1 := ldRow_mid hr1 Try.underlying39 rfl (part_size x)
            have hl2 := part_ld (World.rangeAt_alloc hr2 (.cells (RW.pcl x).toArray 39))
            have hl3 := part_ld hx0
            have hneq := fun W => neq_part x y W
            have hdA : (wr.alloc (.cells (RW.pcl x).toArray 39)).cell? ⟨r + 1, 0, none⟩ = some (.slice (some ⟨b2, o2, none⟩) n cb) := by
              have hlt2 : r + 1 < W0.heap.size := (Array.getElem?_eq_some_iff.1 h2H.out).1
              refine (World.cell?_of_block (a := ⟨r + 1, 0, none⟩) ((Below.heap_alloc _ _ _ (Nat.lt_of_lt_of_le hlt2 hP.out.2.size)).trans (hP.out.2.block _ hlt2))).trans ?_
              exact (cellAt h2H.out 0).trans rfl
            have hBa := hide (hP.out.2.alloc hP.out.2.size (.cells (RW.pcl x).toArray 39))
            have hps := part_size x
            have hone := part_one x
            obtain ⟨X, hX⟩ : ∃ X, X = (RW.pcl x).toArray := ⟨_, rfl⟩
            obtain ⟨Y, hY⟩ : ∃ Y, Y = (RW.pcl y).toArray := ⟨_, rfl⟩
            have hps' : (Try.prog.info? 39).map (·.size) = some X.size := by rw [hX]; exact hps
            have hX2 : (#[.int .i64 0, .int .i64 0] : Array Value).size = X.size := by rw [hX]; rfl
            rw [← hX] at hl1 hl2 hl3 hneq hdA hBa hone
            rw [← hY] at hl2 hneq
            have hxH := hide hx
            have hyH := hide hy
            clear hX hY hx hy hb1 hb2 hc1 hc2 hr1 hr2 hx0 hps hBw hsz
            by_cases he : x = y
            · rw [decide_eq_true he] at hneq
              have heH := hide he
              clear he
              go_upto_region 6 with (refine wpListStoreNew rfl 39 (.tmp 6) (.tmp 35) rfl X rfl rfl 39 _ hps' hX2 hone ?_)
              go_quiet (fail)
              go_wp2
              go_roundw
              case rel => exact ⟨j + 1, by omega, by go_num, RW.take_eqP l m j x hxH.out (heH.out ▸ hyH.out) hP.out.1, ⟨hBa.out.os, hBa.out.tape, hBa.out.output, hBa.out.size, hBa.out.block⟩⟩
              case measure => simp [intOf]; omega
            · rw [decide_eq_false he] at hneq
              have heH := hide he
              clear he
              go_upto_region 6 with (refine wpListStoreNew rfl 39 (.tmp 6) (.tmp 35) rfl X rfl rfl 39 _ hps' hX2 hone ?_)
              go_quiet (fail)
              go_wp2
              go_ret
              exact ⟨by rw [hqH.out, RW.ne_of_get hxH.out hyH.out heH.out] <;> rfl, hEH.out _ ⟨hBa.out.os, hBa.out.tape, hBa.out.output, hBa.out.size, hBa.out.block⟩⟩
          · obtain rfl : j = n := by omega
            have hA : l = m := by
              have h1 := hP.out.1
              rwa [List.take_of_length_le (by rw [hnH.out]; exact Nat.le_refl _), List.take_of_length_le (by rw [hkH.out]; exact Nat.le_refl _)] at h1
            have hAH := hide (show q = true by rw [hqH.out]; exact decide_eq_true hA)
            clear hA
            go_wp2
            go_ret
            exact ⟨by rw [hAH.out, g1H.out, g2H.out] <;> rfl, hEH.out _ hP.out.2⟩
      · have e1 : ((n : Int) != (k : Int)) = true := by simp; omega
        have e2 : (n != k) = true := by simp; omega
        have hF := hide (show q = false by rw [hqH.out]; exact decide_eq_false fun h => hne (by rw [hnH.out, hkH.out, h]))
        clear hne
        go_wp2
        go_ret
        exact ⟨by rw [hF.out] <;> rfl, hEH.out _ (Below.refl _ _)⟩
    · have g2H := hide (decide_eq_false g2)
      have g2' : (e == f) = false := by simp [g2]
      have g2n : (e != f) = true := by simp [g2]
      clear g2
      go_wp2
      go_ret
      exact ⟨by rw [g2H.out, g1H.out] <;> simp, hEH.out _ (Below.refl _ _)⟩
  · have g1H := hide (decide_eq_false g1)
    have g1' : (c == d) = false := by simp [g1]
    have g1n : (c != d) = true := by simp [g1]
    clear g1
    go_wp2
    go_ret
    exact ⟨by rw [g1H.out] <;> simp, hEH.out _ (Below.refl _ _)⟩
end Go.Proofs.Ytnkdpfkmellpcaa

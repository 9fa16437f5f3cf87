/-
  Package graph: Clusters: what it returns; only new memory is written.
-/
import Derived.Test.YtbmlfejlmedmgaaG8
namespace Go.Proofs.Ytbmlfejlmedmgaa
open Go.RowKit RG
namespace RW
def cls (l : List Ed) : List (List Int) := (gst (fun a => rOf l (false, a)) (accs l)).map (·.2)
theorem gadd_len (k : Int → Nd) (st : List (Nd × List Int)) (x : Int) : (gadd k st x).length ≤ st.length + 1 := by
  unfold gadd
  split
  · rw [List.length_modify]; exact Nat.le_succ _
  · simp
theorem gadd_el (k : Int → Nd) (st : List (Nd × List Int)) (x : Int) (n : Nat) (h : ∀ e ∈ st, e.2.length ≤ n) : ∀ e ∈ gadd k st x, e.2.length ≤ n + 1 := by
  unfold gadd
  split
  · intro e he
    obtain ⟨j, hj⟩ := List.getElem?_of_mem he
    rw [List.getElem?_modify] at hj
    cases hs : st[j]? with
    | none => rw [hs] at hj; simp at hj
    | some e0 =>
      rw [hs] at hj
      have h0 := h e0 (List.mem_of_getElem? hs)
      simp at hj
      split at hj
      · subst hj; simp; exact h0
      · subst hj; omega
  · intro e he
    rw [List.mem_append, List.mem_singleton] at he
    rcases he with he | rfl
    · have := h e he; omega
    · simp
theorem gst_bd (k : Int → Nd) : ∀ (A : List Int) (st : List (Nd × List Int)) (n : Nat), st.length ≤ n → (∀ e ∈ st, e.2.length ≤ n) → (A.foldl (gadd k) st).length ≤ n + A.length ∧ ∀ e ∈ A.foldl (gadd k) st, e.2.length ≤ n + A.length
  | [], st, n, h1, h2 => ⟨h1, h2⟩
  | x :: A, st, n, h1, h2 => by
    have := gst_bd k A (gadd k st x) (n + 1) (Nat.le_trans (gadd_len k st x) (Nat.succ_le_succ h1)) (gadd_el k st x n h2)
    rw [List.foldl_cons, List.length_cons]
    have e : n + (A.length + 1) = n + 1 + A.length := by omega
    rw [e]
    exact this
theorem gst_len (k : Int → Nd) (A : List Int) : (gst k A).length ≤ A.length ∧ ∀ e ∈ gst k A, e.2.length ≤ A.length := by
  have := gst_bd k A [] 0 (Nat.le_refl _) (fun e he => by cases he)
  rw [Nat.zero_add] at this
  exact this
end RW
theorem mk_mapI (W : World) : (Instr.makeMap 54 none).run Try.prog W = .ok (.map (some W.heap.size)) (W.alloc (.map #[] 0)) := rfl
theorem cs_start {W : World} {B cb mb : Nat} {va vd : Value} {R : RW.Nd → RW.Nd} {A D : List Int} (h : Cl0 W B cb mb va vd va vd R A D) :
    CsR ((((W.alloc (.cells #[.pointer (some ⟨cb, 0, none⟩)] 43)).alloc (.map #[] 0)).alloc (.cells #[.map (some (W.heap.size + 1))] 54)).alloc (.cells #[.slice none 0 0] 33)) B (W.heap.size + 1 + 1 + 1 + 1) cb mb (W.heap.size + 1) W.heap.size (W.heap.size + 1 + 1) (W.heap.size + 1 + 1 + 1) va vd (.slice none 0 0) R A D [] ∧
    Below W.heap.size W ((((W.alloc (.cells #[.pointer (some ⟨cb, 0, none⟩)] 43)).alloc (.map #[] 0)).alloc (.cells #[.map (some (W.heap.size + 1))] 54)).alloc (.cells #[.slice none 0 0] 33)) := by
  obtain ⟨W1, h1⟩ : ∃ X, X = W.alloc (.cells #[.pointer (some ⟨cb, 0, none⟩)] 43) := ⟨_, rfl⟩
  rw [← h1]
  obtain ⟨W2, h2⟩ : ∃ X, X = W1.alloc (.map #[] 0) := ⟨_, rfl⟩
  rw [← h2]
  obtain ⟨W3, h3⟩ : ∃ X, X = W2.alloc (.cells #[.map (some (W.heap.size + 1))] 54) := ⟨_, rfl⟩
  rw [← h3]
  have s1 : W1.heap.size = W.heap.size + 1 := by rw [h1]; exact alloc_size _ _
  have s2 : W2.heap.size = W.heap.size + 1 + 1 := by rw [h2, alloc_size, s1]
  have s3 : W3.heap.size = W.heap.size + 1 + 1 + 1 := by rw [h3, alloc_size, s2]
  have k0 : W1.heap[W.heap.size]? = some (.cells #[.pointer (some ⟨cb, 0, none⟩)] 43 (0, 0)) := by rw [h1]; exact alloc_at1 _ _
  have hB := alloc_bel (alloc_bel (alloc_bel (alloc_bel (Below.refl W.heap.size W) (Nat.le_refl _) (.cells #[.pointer (some ⟨cb, 0, none⟩)] 43)) (Nat.le_refl _) (.map #[] 0)) (Nat.le_refl _) (.cells #[.map (some (W.heap.size + 1))] 54)) (Nat.le_refl _) (.cells #[.slice none 0 0] 33)
  rw [← h1, ← h2, ← h3] at hB
  refine ⟨⟨h.next hB, ⟨by have := h.lt.1; omega, by have := h.lt.2; omega, by omega, fun g hg => by have := (own_block h.oa hg).2.1; omega, fun g hg => by have := (own_block h.od hg).2.1; omega⟩, ?_, ?_, ?_, ?_, by omega, by omega, by omega, by have := h.lt.2; omega, by have := h.lt.1; have := h.hb; omega, by have := h.lt.1; have := h.hb; omega, by rw [alloc_size, s3]; exact Nat.le_refl _⟩, hB⟩
  · exact alloc_old _ _ (by rw [h3]; exact alloc_old _ _ (by rw [h2]; exact alloc_old _ _ k0))
  · exact alloc_old _ _ (by rw [h3, ← s2]; exact alloc_at1 _ _)
  · rw [← s3]; exact alloc_at1 _ _
  · refine ⟨[], ?_, fun r => by rw [KM.get_nil]; rfl⟩
    have := KM.OwnM.made (κ := RW.Nd) (kv := RW.ndv) W1
    rw [← h2, s1] at this
    exact (this.keep (by rw [h3]; exact Below.heap_alloc _ _ _ (by rw [s2]; omega))).keep (Below.heap_alloc _ _ _ (by rw [s3]; omega))
set_option maxRecDepth 10000 in
set_option maxHeartbeats 4000000 in
theorem clusters_any (v : Value) (l : List RW.Ed) (hl : l.length ≤ 1000) (w : World) (hv : RowV 2 RW.edl w v l) :
    Calls Try.prog 17 #[v] w fun e w' => ∃ u, e = .returned u ∧ LL w' u (RW.cls l) ∧ Below w.heap.size w w' := by
  have hO := hide (of_any v l hl w hv)
  have hA1 := hide (show (RW.accs l).length ≤ 1000 by have := RW.asc_len (l.map (·.1)); rw [List.length_map] at this; unfold RW.accs; omega)
  obtain ⟨av, cv, rfl, _, _⟩ := hv
  obtain ⟨n, hn⟩ : ∃ n, n = l.length := ⟨_, rfl⟩
  rw [← hn] at hO ⊢
  obtain ⟨R, hR⟩ : ∃ R, R = RW.rOf l := ⟨_, rfl⟩
  obtain ⟨A, hA⟩ : ∃ A, A = RW.accs l := ⟨_, rfl⟩
  obtain ⟨D, hD⟩ : ∃ D, D = RW.devs l := ⟨_, rfl⟩
  rw [← hR, show RW.asc (l.map (·.1)) = A from hA.symm, show RW.asc (l.map (·.2)) = D from hD.symm] at hO
  rw [← hA] at hA1
  have hq := hide (show RW.cls l = (RW.gst (fun a => R (false, a)) A).map (·.2) by rw [hR, hA]; rfl)
  obtain ⟨B, hB⟩ : ∃ B, B = w.heap.size := ⟨_, rfl⟩
  rw [← hB] at hO ⊢
  obtain ⟨Y, hY⟩ : ∃ Y, Y = RW.cls l := ⟨_, rfl⟩
  rw [← hY] at hq ⊢
  have hmk := mk_mapI
  clear hl hn hR hA hD hB hY
  go_enter Try.func17, Try.ntmps17
  go_upto_region 4 with (go_at_call 22; refine hO.out.mono ?_; rintro e w1 ⟨cb, mb, va, vd, rfl, h1, h2⟩; have h1H := hide h1; have h2H := hide h2; clear h1 h2)
  refine gen_w (fun W => CsS B (w1.heap.size + 1 + 1 + 1 + 1) cb mb (w1.heap.size + 1) w1.heap.size (w1.heap.size + 1 + 1) (w1.heap.size + 1 + 1 + 1) va vd R A D [] W ∧ Below B w W) ?_ ?_
  · have hs := cs_start h1H.out
    exact ⟨⟨_, [], hs.1, OutA.nil _ _⟩, h2H.out.trans (hs.2.mono (Nat.le_trans h1H.out.hb (Nat.le_of_lt h1H.out.lt.1)))⟩
  obtain ⟨aa, ca, hva⟩ := h1H.out.oa.form
  subst hva
  obtain ⟨p0, hp0⟩ : ∃ p, p = w1.heap.size := ⟨_, rfl⟩
  rw [← hp0]
  obtain ⟨ab, hab⟩ : ∃ p, p = p0 + 1 := ⟨_, rfl⟩
  obtain ⟨p1, hp1⟩ : ∃ p, p = p0 + 1 + 1 := ⟨_, rfl⟩
  obtain ⟨p2, hp2⟩ : ∃ p, p = p0 + 1 + 1 + 1 := ⟨_, rfl⟩
  obtain ⟨B2, hB2⟩ : ∃ p, p = p0 + 1 + 1 + 1 + 1 := ⟨_, rfl⟩
  rw [← hB2, ← hp2, ← hp1, ← hab]
  clear hB2 hp2 hp1 hab hp0 h1H h2H hmk
  rintro w2 ⟨hS0, hB0⟩
  have hS := hide hS0
  have hBw := hide hB0
  obtain ⟨vo, vs, hR0, _⟩ := hS0
  obtain ⟨na, hna⟩ : ∃ n, n = A.length := ⟨_, rfl⟩
  have hnaH := hide hna
  rw [← hna] at hS hR0 hA1
  have k0 : w2.cell? ⟨p0, 0, none⟩ = some (.pointer (some ⟨cb, 0, none⟩)) := cellAt hR0.b0 0
  have k1 : w2.cell? ⟨cb, 1, none⟩ = some (.slice aa na ca) := hR0.cl.cell.2.1
  clear hR0 hB0 hna
  have hnb : na ≤ 1000 := hA1.out
  go_wp2
  go_loopw [18] (fun i wr => ∃ j : Nat, i = .int .i64 j ∧ j ≤ na ∧ Hid (CsS B B2 cb mb ab p0 p1 p2 (.slice aa na ca) vd R A D (RW.gst (fun a => R (false, a)) (A.take j)) wr ∧ Below B w wr)) (fun i _ => na - (intOf i).toNat)
  case atStart => exact ⟨0, rfl, Nat.zero_le _, hS.out, hBw.out⟩
  case round =>
    obtain ⟨j, rfl, hj, hQ⟩ := hrel
    clear hS hBw k0 k1
    obtain ⟨wo, hwo⟩ : ∃ wo, wo = wr := ⟨_, rfl⟩
    subst hwo
    have hS := hide hQ.out.1
    have hBw := hide hQ.out.2
    clear hQ
    by_cases hjm : j < na
    · obtain ⟨y, hy⟩ : ∃ y, A[j]? = some y := ⟨_, List.getElem?_eq_getElem (by rw [← hnaH.out]; exact hjm)⟩
      have hsn := hide (show RW.gst (fun a => R (false, a)) (A.take (j + 1)) = RW.gadd (fun a => R (false, a)) (RW.gst (fun a => R (false, a)) (A.take j)) y by rw [List.take_add_one, hy]; exact RW.gst_snoc _ _ _)
      obtain ⟨vo, vs, hR0, _⟩ := hS.out
      have hrow := hR0.cl.oa.row
      obtain ⟨a0, c0, he0, _, hrow⟩ := hrow
      injection he0 with q1 q2 q3
      subst q1
      subst q3
      clear q2
      obtain ⟨bq, oq, rfl, hbq, hcq⟩ := hrow.resolve_left (by rintro h; rw [h] at hy; simp at hy)
      have k1 : wo.cell? ⟨bq, oq + j, none⟩ = some (.int .i64 y) := ints_cell hcq hy
      have hgl := RW.gst_len (fun a => R (false, a)) (A.take j)
      rw [List.length_take, ← hnaH.out] at hgl
      have hAdd := hide (add_any B B2 cb mb ab p0 p1 p2 _ vd R A D _ wo y (by omega) (fun e he => by have := hgl.2 e he; omega) hS.out)
      clear hbq hcq hy hrow hR0 hgl
      go_wp2_with (go_at_call 26; refine hAdd.out.mono ?_; rintro e w5 ⟨⟨u, rfl⟩, g1, g2⟩; have g1H := hide g1; have g2H := hide (hBw.out.trans g2); clear g1 g2)
      go_roundw
      case rel => exact ⟨j + 1, by go_num, by omega, by rw [hsn.out]; exact g1H.out, g2H.out⟩
      case measure => simp [intOf]; omega
    · obtain rfl : j = na := by omega
      have htl : A.take j = A := List.take_of_length_le (by rw [← hnaH.out]; exact Nat.le_refl _)
      rw [htl] at hS
      obtain ⟨vo, vs, hR0, hO0⟩ := hS.out
      have hO5 := hide hO0
      obtain ⟨ao, co, hvo⟩ := hO0.form
      subst hvo
      have k2 : wo.cell? ⟨p2, 0, none⟩ = some (.slice ao vs.length co) := cellAt hR0.b2 0
      clear hR0 hO0 htl
      go_wp2
      go_ret
      exact ⟨_, rfl, by rw [hq.out]; exact hO5.out.ll, hBw.out⟩
end Go.Proofs.Ytbmlfejlmedmgaa

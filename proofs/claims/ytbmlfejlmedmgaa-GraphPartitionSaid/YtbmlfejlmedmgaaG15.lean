/-
  Package royaltylaw10: GraphPartition: it returns true; only new memory is written.
-/
import Derived.Laws.MakeOwn
import Derived.Test.YtbmlfejlmedmgaaG14
import Derived.Test.YtbmlfejlmedmgaaGP4
namespace Go.Proofs.Ytbmlfejlmedmgaa
open Go.RowKit RG
namespace RW
/-- a row of fourteen numbers -/
def rwG (g : Int → Int) : List Int := (List.range 14).map fun (n : Nat) => g (n : Int)
theorem rwG_get (g : Int → Int) {n : Nat} (h : n < 14) : (rwG g)[n]? = some (g (n : Int)) := by
  unfold rwG
  rw [List.getElem?_map, List.getElem?_range h]
  rfl
theorem rwG_set (g : Int → Int) {n : Nat} (h : n < 14) (v : Int) : (rwG g).set n v = rwG (fun m => if m = (n : Int) then v else g m) := by
  apply List.ext_getElem?
  intro j
  rw [List.getElem?_set]
  have hl : (rwG g).length = 14 := by simp [rwG]
  rcases Nat.lt_or_ge j 14 with hj | hj
  · rw [rwG_get _ hj, rwG_get _ hj]
    by_cases e : n = j
    · subst e
      rw [if_pos rfl, if_pos (by rw [hl]; exact h), if_pos rfl]
    · rw [if_neg e, if_neg (by omega)]
  · rw [if_neg (by omega), List.getElem?_eq_none (by rw [hl]; exact hj), List.getElem?_eq_none (by simp [rwG]; exact hj)]
end RW
theorem mk14 (w : World) : (Instr.makeSlice 27 (.int .i64 14) (.int .i64 14)).run Try.prog w = .ok (.slice (some ⟨w.heap.size, 0, none⟩) 14 14) (w.alloc (.cells ((RW.rwG fun _ => 0).map fun z => Value.int .i64 z).toArray 3)) := by
  obtain ⟨i, hi, hz, hs, hb⟩ := info_parts int_info
  have h := run_make (P := Try.prog) w 27 3 i (.int .i64 0) Try.underlying27 hi hz .i64 .i64 14 14 (by omega) (Int.le_refl _) (by rw [hb]; omega) (by omega)
  rw [hs] at h
  have e : madeCells (Value.int .i64 0).cells (Int.toNat 14 * 1) = ((RW.rwG fun _ => 0).map fun z => Value.int .i64 z).toArray := by
    apply Array.ext
    · simp [madeCells, RW.rwG]
    · intro i h1 h2
      simp [madeCells, RW.rwG, Value.cells, Nat.mod_one]
  rw [h, e]
  rfl
theorem mk14b (w : World) : (Instr.makeSlice 24 (.int .i64 14) (.int .i64 14)).run Try.prog w = .ok (.slice (some ⟨w.heap.size, 0, none⟩) 14 14) (w.alloc (.cells ((List.range 14).map fun _ => Value.bool false).toArray 4)) := by
  have hinfo : (Try.prog.info? 4).map (fun i => (i.zero, i.size, i.bytes)) = some (some (.bool false), 1, 1) := by kernel_rfl
  obtain ⟨i, hi, hz, hs, hb⟩ := info_parts hinfo
  have h := run_make (P := Try.prog) w 24 4 i (.bool false) Try.underlying24 hi hz .i64 .i64 14 14 (by omega) (Int.le_refl _) (by rw [hb]; omega) (by omega)
  rw [hs] at h
  have e : madeCells (Value.bool false).cells (Int.toNat 14 * 1) = ((List.range 14).map fun _ => Value.bool false).toArray := by
    apply Array.ext
    · simp [madeCells]
    · intro i h1 h2
      simp [madeCells, Value.cells, Nat.mod_one]
  rw [h, e]
  rfl
theorem ints_at {W : World} {B g n c i : Nat} {L : List Int} {x : Int} (h : W.ownsRow B 3 1 (.slice (some ⟨g, 0, none⟩) n c) L.length (L.map fun z => Value.int .i64 z)) (hx : L[i]? = some x) : W.cell? ⟨g, i, none⟩ = some (.int .i64 x) ∧ W.frozen? ⟨g, i, none⟩ = false := by
  rcases h.2 with ⟨h1, _⟩ | ⟨g', cap, cur, h1, _, hg, _, _, _, ht⟩
  · cases h1
  · cases h1
    refine ⟨?_, by simp [World.frozen?, hg]⟩
    have hl : i < L.length := (List.getElem?_eq_some_iff.1 hx).1
    have h2 : (L.map fun z => Value.int .i64 z)[i]? = some (.int .i64 x) := by rw [List.getElem?_map, hx]; rfl
    rw [cellAt hg, ← Array.getElem?_toList]
    rw [← ht, List.getElem?_take] at h2
    split at h2
    · exact h2
    · cases h2
theorem IntsO.set1 {W : World} {B g c : Nat} {L : List Int} (h : IntsO W B (.slice (some ⟨g, 0, none⟩) L.length c) L) {i : Nat} (hi : i < L.length) (x : Int) : IntsO (W.setCell ⟨g, i, none⟩ (.int .i64 x)) B (.slice (some ⟨g, 0, none⟩) L.length c) (L.set i x) := by
  have := own_set (k := 1) (enc := encI) (e := 3) (B := B) (W := W) (g := g) (l := L) (cap := c) (fun _ => rfl) (by decide) (by rw [intCells]; exact h) i hi x
  rw [intCells, Nat.mul_one] at this
  rw [IntsO, List.length_set]
  exact this
theorem vrow_at {W : World} {B g n c i : Nat} {T : TypeId} {u : Value} {vs : List Value} (h : W.ownsRow B T 1 (.slice (some ⟨g, 0, none⟩) n c) n vs) (hv : vs[i]? = some u) : W.cell? ⟨g, i, none⟩ = some u ∧ W.frozen? ⟨g, i, none⟩ = false := by
  obtain ⟨cur, hB, _, hg, hn, hm, hs, ht⟩ := own_row h rfl
  refine ⟨?_, by simp [World.frozen?, hg]⟩
  rw [cellAt hg, ← Array.getElem?_toList]
  rw [← ht, List.getElem?_take] at hv
  split at hv
  · exact hv
  · cases hv
theorem vrow_set {W : World} {B g c i : Nat} {T : TypeId} {vs : List Value} (h : W.ownsRow B T 1 (.slice (some ⟨g, 0, none⟩) vs.length c) vs.length vs) (hi : i < vs.length) (u : Value) : (W.setCell ⟨g, i, none⟩ u).ownsRow B T 1 (.slice (some ⟨g, 0, none⟩) vs.length c) vs.length (vs.set i u) := by
  have := own_set (k := 1) (enc := fun u : Value => [u]) (e := T) (B := B) (W := W) (g := g) (l := vs) (cap := c) (fun _ => rfl) (by decide) (by rw [rowCells_v]; exact h) i hi u
  rw [rowCells_v, Nat.mul_one] at this
  exact this
namespace RW
def rwB (o : Int → Bool) : List Value := (List.range 14).map fun (n : Nat) => Value.bool (o (n : Int))
theorem rwB_get (o : Int → Bool) {n : Nat} (h : n < 14) : (rwB o)[n]? = some (.bool (o (n : Int))) := by
  unfold rwB
  rw [List.getElem?_map, List.getElem?_range h]
  rfl
theorem rwB_len (o : Int → Bool) : (rwB o).length = 14 := by simp [rwB]
theorem rwB_set (o : Int → Bool) {n : Nat} (h : n < 14) (v : Bool) : (rwB o).set n (.bool v) = rwB (fun m => if m = (n : Int) then v else o m) := by
  apply List.ext_getElem?
  intro j
  rw [List.getElem?_set]
  rcases Nat.lt_or_ge j 14 with hj | hj
  · rw [rwB_get _ hj, rwB_get _ hj]
    by_cases e : n = j
    · subst e
      rw [if_pos rfl, if_pos (by rw [rwB_len]; exact h), if_pos rfl]
    · rw [if_neg e, if_neg (by omega)]
  · rw [if_neg (by omega), List.getElem?_eq_none (by rw [rwB_len]; exact hj), List.getElem?_eq_none (by rw [rwB_len]; exact hj)]
def occ (l : List Ed) (j : Nat) (n : Int) : Bool := (l.take j).any fun e => decide (e.1 = n)
theorem occ_step {l : List Ed} {j : Nat} {e : Ed} (h : l[j]? = some e) (n : Int) : occ l (j + 1) n = if n = e.1 then true else occ l j n := by
  unfold occ
  rw [List.take_add_one, h, List.any_append]
  by_cases q : n = e.1
  · rw [if_pos q, q]
    simp
  · rw [if_neg q]
    have : ¬ e.1 = n := fun e => q e.symm
    simp [this]
theorem occ_all (l : List Ed) (n : Int) : occ l l.length n = !decide (mtx (cls l) n = 0) := by
  unfold occ
  rw [List.take_length, Bool.eq_iff_iff, List.any_eq_true, Bool.not_eq_true', decide_eq_false_iff_not, mtx_zero, mem_accs]
  constructor
  · rintro ⟨e, he, hq⟩ h
    exact h ⟨e, he, by simpa using hq⟩
  · intro h
    obtain ⟨e, he, hq⟩ := Classical.byContradiction (fun q => h q)
    exact ⟨e, he, by simpa using hq⟩
end RW
section
variable {ev : Operand → Value} {o : Oper} {x y z : Operand} {w : World}
theorem op_eqi {m n : Int} {b : Bool} (hb : decide (m = n) = b) (ho : o.op = .binOp .eql 3 x y 3) (hx : ev x = .int .i64 m) (hy : ev y = .int .i64 n) : (execOp ev o).run Try.prog w = .ok (.value (.bool b)) w := by
  by_cases h : m = n
  · have hb' : b = true := by rw [← hb]; exact decide_eq_true h
    clear hb
    subst hb'
    unfold execOp
    rw [ho]
    simp only [hx, hy]
    go_simp
  · have hb' : b = false := by rw [← hb]; exact decide_eq_false h
    clear hb
    subst hb'
    unfold execOp
    rw [ho]
    simp only [hx, hy]
    go_simp
theorem op_nei0 {m : Int} {b : Bool} (hb : decide (m = 0) = !b) (ho : o.op = .binOp .neq 3 x y 3) (hx : ev x = .int .i64 m) (hy : ev y = .int .i64 0) : (execOp ev o).run Try.prog w = .ok (.value (.bool b)) w := by
  by_cases h : m = 0
  · have hb' : b = false := by rw [decide_eq_true h] at hb; cases b <;> simp_all
    clear hb
    subst hb'
    unfold execOp
    rw [ho]
    simp only [hx, hy]
    go_simp
  · have hb' : b = true := by rw [decide_eq_false h] at hb; cases b <;> simp_all
    clear hb
    subst hb'
    unfold execOp
    rw [ho]
    simp only [hx, hy]
    go_simp
theorem op_len_i {p : Option Addr} {n c : Nat} (ho : o.op = .call { callee := .builtin .len, args := #[x], argTypes := #[27] }) (hx : ev x = .slice p n c) : (execOp ev o).run Try.prog w = .ok (.value (.int .i64 n)) w := by
  unfold execOp
  rw [ho]
  simp only [hx]
  go_simp
theorem op_eq0 {n : Nat} (hn : n ≠ 0) (ho : o.op = .binOp .eql 3 x y 3) (hx : ev x = .int .i64 n) (hy : ev y = .int .i64 0 := by rfl) : (execOp ev o).run Try.prog w = .ok (.value (.bool false)) w := by
  have h : ¬ ((n : Int) = 0) := by omega
  unfold execOp
  rw [ho]
  simp only [hx, hy]
  go_simp
theorem op_gt0 {n : Nat} {b : Bool} (hb : decide (0 < n) = b) (ho : o.op = .binOp .gtr 3 x y 3) (hx : ev x = .int .i64 n) (hy : ev y = .int .i64 0 := by rfl) : (execOp ev o).run Try.prog w = .ok (.value (.bool b)) w := by
  have h : decide ((0 : Int) < (n : Int)) = b := by
    rw [← hb]
    exact decide_eq_decide.2 (by omega)
  unfold execOp
  rw [ho]
  simp only [hx, hy]
  rw [← h]
  go_simp
theorem op_leq {m n : Int} {b : Bool} (hb : decide (m ≤ n) = b) (ho : o.op = .binOp .leq 3 x y 3) (hx : ev x = .int .i64 m) (hy : ev y = .int .i64 n) : (execOp ev o).run Try.prog w = .ok (.value (.bool b)) w := by
  unfold execOp
  rw [ho]
  simp only [hx, hy]
  rw [← hb]
  go_simp
theorem op_pred {k : Nat} (hk : (k : Int) + 1 ≤ 9223372036854775807) (ho : o.op = .binOp .sub 3 x y 3) (hx : ev x = .int .i64 ((k + 1 : Nat) : Int)) (hy : ev y = .int .i64 1) : (execOp ev o).run Try.prog w = .ok (.value (.int .i64 k)) w := by
  have h : wrap64 (((k + 1 : Nat) : Int) - 1) = (k : Int) := by unfold wrap64; omega
  unfold execOp
  rw [ho]
  simp only [hx, hy]
  go_simp
  rw [IntKind.wrap_i64]
  omega
end
set_option maxRecDepth 10000 in
set_option maxHeartbeats 4000000 in
theorem graphpart_any (v : Value) (l : List RW.Ed) (hl : ∀ e ∈ l, RW.i64b e.1 ∧ RW.i64b e.2) (a b : Int) (ha : RW.i64b a) (hb : RW.i64b b) (w : World) (hv : RowV 2 RW.edl w v l) :
    Calls Try.prog 4 #[v, .int .i64 a, .int .i64 b] w fun e w' => e = .returned (.bool true) ∧ Below w.heap.size w w' := by
  have hS := hide (fun W => sane_any W)
  have hP1 := hide (fun W => pick_any a 14 ha.1 ha.2 (by decide) (by decide) W)
  have hP2 := hide (fun W => pick_any b 14 hb.1 hb.2 (by decide) (by decide) W)
  have hxb := RW.pickI_bd a 14 (by decide)
  have hyb := RW.pickI_bd b 14 (by decide)
  obtain ⟨x, hx⟩ : ∃ x, x = RW.pickI a 14 := ⟨_, rfl⟩
  obtain ⟨y, hy⟩ : ∃ x, x = RW.pickI b 14 := ⟨_, rfl⟩
  rw [← hx] at hP1 hxb
  rw [← hy] at hP2 hyb
  have hF1 := hide (fun W (hW : RowV 2 RW.edl W v l) => few_any v l false hl W hW)
  have hsm := hide (RW.fewL_small l)
  obtain ⟨E, hE⟩ : ∃ E, E = RW.fewL false l := ⟨_, rfl⟩
  have hEl := hide (show E.length ≤ 50 by rw [hE]; exact RW.fewL_len _ _)
  rw [← hE] at hF1 hsm
  have hvH := hide hv
  obtain ⟨av, cv, hvf, _, _⟩ := hv
  subst hvf
  obtain ⟨nl, hnl⟩ : ∃ n, n = l.length := ⟨_, rfl⟩
  rw [← hnl] at hF1 hvH ⊢
  obtain ⟨B, hB⟩ : ∃ B, B = w.heap.size := ⟨_, rfl⟩
  have hBH := hide hB
  have hsz := hide (fun W (h : Below B w W) => (show B ≤ W.heap.size by rw [hB]; exact hB ▸ h.size))
  have hxbH := hide hxb
  have hybH := hide hyb
  clear ha hb hl hE hnl hB hx hy hxb hyb
  go_enter Try.func4, Try.ntmps4
  go_upto_region 2 with (go_at_call 8; refine (hS.out _).mono ?_; rintro e w2 ⟨rfl, q⟩; have k2 := hide (hvH.out.next q); have k3 := hide (show Below B w w2 from hBH.out ▸ q); clear q)
  go_upto_region 3 with (go_at_call 9; refine (hF1.out _ k2.out).mono ?_; rintro e w3 ⟨ve, rfl, q1, q⟩; have g2 := hide q1; have g3 := hide (k3.out.trans (q.mono (hsz.out _ k3.out))); clear q q1)
  obtain ⟨ae, ce, hve⟩ := g2.out.form
  subst hve
  obtain ⟨ne, hne⟩ : ∃ n, n = E.length := ⟨_, rfl⟩
  have hneH := hide hne
  have gr := hide g2.out.row
  rw [← hne] at gr
  rw [← hne]
  have hE1 : E.length ≤ 1000 := by have := hEl.out; omega
  have hCs := hide (clusters_any _ E hE1 w3 gr.out)
  have hJn := hide (fun a b W (h : RowV 2 RW.edl W (.slice ae ne ce) E) => joined_any _ E a b hE1 W h)
  have hE50 : ne ≤ 50 := by rw [hneH.out]; exact hEl.out
  clear hne k2 k3 g2 hF1 hE1
  go_upto_region 4 with (go_at_call 10; refine (hP1.out _).mono ?_; rintro e w' ⟨rfl, rfl⟩)
  go_upto_region 5 with (go_at_call 10; refine (hP2.out _).mono ?_; rintro e w' ⟨rfl, rfl⟩)
  go_upto_region 6 with (go_at_call 17; refine hCs.out.mono ?_; rintro e w4 ⟨vall, rfl, q1, q⟩; have l1 := hide q1; have s1 := hide (gr.out.next q); have sb := hide (g3.out.trans (q.mono (hsz.out _ g3.out))); clear q q1)
  obtain ⟨vs, ⟨al, cl, rfl, _, hal⟩, hvl, hve⟩ := l1.out
  obtain ⟨nc, hnc⟩ : ∃ n, n = vs.length := ⟨_, rfl⟩
  have hncH := hide hnc
  have halH := hide hal
  have hvlH := hide hvl
  have hveH := hide hve
  rw [← hnc]
  clear hnc hal hvl hve
  have hcb := RW.cls_bd E (by have := hEl.out; omega)
  have hnc3 : nc ≤ 1000 := by rw [hncH.out, hvlH.out]; exact hcb.1
  have hmk := mk14
  clear hcb
  go_upto_region 8 with fail
  obtain ⟨B5, hB5⟩ : ∃ b, b = w4.heap.size := ⟨_, rfl⟩
  have hB5H := hide hB5
  have re := hide (fun W (h : Below B5 w4 W) => s1.out.next (hB5 ▸ h))
  have ts := hide (fun W (h : Below B5 w4 W) => (show B5 ≤ W.heap.size by rw [hB5]; exact (hB5 ▸ h).size))
  have rb := hide (fun W (h : Below B5 w4 W) => (show Below B w W from sb.out.trans (h.mono (by rw [hB5]; exact hsz.out _ sb.out))))
  refine gen_w (fun W => IntsO W B5 (.slice (some ⟨w4.heap.size, 0, none⟩) 14 14) (RW.rwG (RW.mtx ((RW.cls E).take 0))) ∧ Below B5 w4 W) ⟨⟨rfl, .inr ⟨w4.heap.size, 14, _, rfl, by rw [hB5]; exact Nat.le_refl _, alloc_at1 _ _, Nat.le_refl _, by unfold maxLen; omega, rfl, rfl⟩⟩, by rw [hB5]; exact alloc_bel (Below.refl _ _) (Nat.le_refl _) _⟩ ?_
  obtain ⟨gb, hgb⟩ : ∃ g, g = w4.heap.size := ⟨_, rfl⟩
  rw [← hgb]
  clear hgb hB5 gr g3 hmk s1 sb l1
  rintro w5 ⟨h1, h2⟩
  have k1 := hide h1
  have k2 := hide h2
  clear h1 h2
  go_wp2
  go_loopw [13] (fun i wr => ∃ j : Nat, i = .int .i64 j ∧ j ≤ nc ∧ Hid (IntsO wr B5 (.slice (some ⟨gb, 0, none⟩) 14 14) (RW.rwG (RW.mtx ((RW.cls E).take j))) ∧ Below B5 w4 wr)) (fun i _ => nc - (intOf i).toNat)
  case atStart => exact ⟨0, rfl, Nat.zero_le _, k1.out, k2.out⟩
  case round =>
    obtain ⟨j, rfl, hj, hQ⟩ := hrel
    obtain ⟨wo, hwo⟩ : ∃ wo, wo = wr := ⟨_, rfl⟩
    subst hwo
    have hO := hide hQ.out.1
    have hBw := hide hQ.out.2
    clear hQ k1 k2
    by_cases hjm : j < nc
    · have hjmH := hide hjm
      obtain ⟨vk, hvk⟩ : ∃ x, vs[j]? = some x := ⟨_, List.getElem?_eq_getElem (by rw [← hncH.out]; exact hjm)⟩
      obtain ⟨ck, hck⟩ : ∃ x, (RW.cls E)[j]? = some x := ⟨_, List.getElem?_eq_getElem (by rw [← hvlH.out, ← hncH.out]; exact hjm)⟩
      obtain ⟨bl, ol, rfl, hbl, hcl⟩ := halH.out.resolve_left (by rintro rfl; have := hncH.out; simp at this; omega)
      have pall := hide (fun (i : Nat) (u : Value) (hu : vs[i]? = some u) W (h : Below B5 w4 W) => (World.cell?_of_block (a := ⟨bl, ol + i, none⟩) (h.block _ (by rw [hB5H.out]; exact hbl))).trans (vals_cell hcl hu))
      have hrow := hveH.out j vk ck hvk hck
      obtain ⟨_, _, _, r0, hck0⟩ := RW.cls_get E hck
      obtain ⟨h0, rfl⟩ : ∃ a, ck = a :: r0 := ⟨_, hck0⟩
      obtain ⟨ak, dk, rfl, _, _⟩ := id hrow
      obtain ⟨nk, hnk⟩ : ∃ n, n = (h0 :: r0).length := ⟨_, rfl⟩
      have hnkL := hide hnk
      have hnk0 : 0 < nk := by rw [hnk]; simp
      have hnkP := hide hnk0
      have hnkH := hide (show nk ≠ 0 by omega)
      rw [← hnk] at hvk hrow
      obtain ⟨bk, ok, rfl, pk0⟩ := rowV_pin (i := 0) (x := h0) hrow rfl
      have hrowH := hide hrow
      have pj := hide (fun W (h : Below B5 w4 W) => pall.out j _ hvk W h)
      have ph := hide (fun W (h : Below B5 w4 W) => (pin1 (pk0 W (hB5H.out ▸ h)) : W.cell? ⟨bk, ok + 0, none⟩ = some (.int .i64 h0)))
      have hckH := hide hck
      have hnk3 : nk ≤ 1000 := by
        rw [hnk]
        exact (RW.cls_bd E (by have := hEl.out; omega)).2 _ (List.mem_of_getElem? hck)
      have hjB := hide (show j < 1000 by omega)
      clear hvk hbl hcl hrow hnk pk0 hck0 hck
      obtain ⟨bz, hbz⟩ : ∃ b : Bool, b = decide (j = 0) := ⟨_, rfl⟩
      go_upto_region 10 with fail
      go_cut [61] (fun s wx => s = .bool false ∧ IntsO wx B5 (.slice (some ⟨gb, 0, none⟩) 14 14) (RW.rwG (RW.mtx ((RW.cls E).take j))) ∧ Below B5 w4 wx)
      case first =>
        cases bz
        · have hjne : ¬ j = 0 := of_decide_eq_false hbz.symm
          have hj0 := hide hjne
          obtain ⟨ji, hjie⟩ : ∃ i, j = i + 1 := ⟨j - 1, by omega⟩
          have hji := hide hjie
          have hjiB := hide (show ji < 1000 by have := hjB.out; omega)
          obtain ⟨vp, hvp⟩ : ∃ x, vs[ji]? = some x := ⟨_, List.getElem?_eq_getElem (by rw [← hncH.out]; omega)⟩
          obtain ⟨cp, hcp⟩ : ∃ x, (RW.cls E)[ji]? = some x := ⟨_, List.getElem?_eq_getElem (by rw [← hvlH.out, ← hncH.out]; omega)⟩
          have hrow := hveH.out ji vp cp hvp hcp
          obtain ⟨_, _, _, r1, hcp0⟩ := RW.cls_get E hcp
          obtain ⟨p0, rfl⟩ : ∃ a, cp = a :: r1 := ⟨_, hcp0⟩
          obtain ⟨ap, dp, rfl, _, _⟩ := id hrow
          obtain ⟨np, hnp⟩ : ∃ n, n = (p0 :: r1).length := ⟨_, rfl⟩
          have hnpP := hide (show 0 < np by rw [hnp]; simp)
          rw [← hnp] at hvp hrow
          obtain ⟨bp, op, rfl, pp0⟩ := rowV_pin (i := 0) (x := p0) hrow rfl
          have pp := hide (fun W (h : Below B5 w4 W) => pall.out ji _ hvp W h)
          have pq := hide (fun W (h : Below B5 w4 W) => (pin1 (pp0 W (hB5H.out ▸ h)) : W.cell? ⟨bp, op + 0, none⟩ = some (.int .i64 p0)))
          have hlt := hide (RW.cls_heads E hcp (show (RW.cls E)[ji + 1]? = _ by rw [← hji.out]; exact hckH.out))
          clear hvp hcp hrow hnp pp0 hcp0 hjne hjie hbz
          refine wp_region_k (fun _ W => Below B5 w4 W) (fun W => IntsO W B5 (.slice (some ⟨gb, 0, none⟩) 14 14) (RW.rwG (RW.mtx ((RW.cls E).take j)))) [] (.op 0 (.op 1 (.op 2 (.op 3 (.op 4 (.op 5 (.op 6 (.op 7 (.op 8 (.op 9 (.op 10 (.op 11 (.op 12 (.op 13 (.op 14 (.op 15 (.op 16 (.op 17 (.op 18 (.op 19 (.op 20 (.op 21 (.op 22 (.op 23 (.op 24 (.op 25 .nil)))))))))))))))))))))))))) (by kernel_rfl) (by kernel_rfl) (by rfl) (by kernel_rfl) (hBw.out.trans (Below.refl _ _).drew) (hO.out.next (Below.refl _ _).drew) ?_
          refine k_val (.slice (some ⟨bl, ol, none⟩) nc cl) (by apply opN; repeat' (first | apply OpAt.z | apply OpAt.s)) (by rfl) (by rfl) (fun _ W hS => op_mv rfl rfl) ?_
          simp only [Act.put, List.setIfInBounds_toArray, List.set_cons_zero, List.set_cons_succ]
          refine k_val (.int .i64 (j : Int)) (by apply opN; repeat' (first | apply OpAt.z | apply OpAt.s)) (by rfl) (by rfl) (fun _ W hS => op_mv rfl rfl) ?_
          simp only [Act.put, List.setIfInBounds_toArray, List.set_cons_zero, List.set_cons_succ]
          refine k_val (.pointer (some ⟨bl, ol + j, none⟩)) (by apply opN; repeat' (first | apply OpAt.z | apply OpAt.s)) (by rfl) (by rfl) (fun _ W hS => op_idx_ll rfl rfl rfl hjmH.out) ?_
          simp only [Act.put, List.setIfInBounds_toArray, List.set_cons_zero, List.set_cons_succ]
          refine k_val (.slice (some ⟨bk, ok, none⟩) nk dk) (by apply opN; repeat' (first | apply OpAt.z | apply OpAt.s)) (by rfl) (by rfl) (fun _ W hS => op_load_sl rfl rfl (pj.out W hS)) ?_
          simp only [Act.put, List.setIfInBounds_toArray, List.set_cons_zero, List.set_cons_succ]
          refine k_val (.int .i64 (nk : Int)) (by apply opN; repeat' (first | apply OpAt.z | apply OpAt.s)) (by rfl) (by rfl) (fun _ W hS => op_len_i rfl rfl) ?_
          simp only [Act.put, List.setIfInBounds_toArray, List.set_cons_zero, List.set_cons_succ]
          refine k_val (.bool false) (by apply opN; repeat' (first | apply OpAt.z | apply OpAt.s)) (by rfl) (by rfl) (fun _ W hS => op_eq0 hnkH.out rfl rfl) ?_
          simp only [Act.put, List.setIfInBounds_toArray, List.set_cons_zero, List.set_cons_succ]
          refine k_val (.bool false) (by apply opN; repeat' (first | apply OpAt.z | apply OpAt.s)) (by rfl) (by rfl) (fun _ W hS => op_mv rfl rfl) ?_
          simp only [Act.put, List.setIfInBounds_toArray, List.set_cons_zero, List.set_cons_succ]
          refine k_val (.int .i64 (j : Int)) (by apply opN; repeat' (first | apply OpAt.z | apply OpAt.s)) (by rfl) (by rfl) (fun _ W hS => op_mv rfl rfl) ?_
          simp only [Act.put, List.setIfInBounds_toArray, List.set_cons_zero, List.set_cons_succ]
          refine k_val (.bool true) (by apply opN; repeat' (first | apply OpAt.z | apply OpAt.s)) (by rfl) (by rfl) (fun _ W hS => op_gt0 (n := j) (b := true) (decide_eq_true (by have := hj0.out; omega)) rfl rfl) ?_
          simp only [Act.put, List.setIfInBounds_toArray, List.set_cons_zero, List.set_cons_succ]
          refine k_val (.bool true) (by apply opN; repeat' (first | apply OpAt.z | apply OpAt.s)) (by rfl) (by rfl) (fun _ W hS => op_mv rfl rfl) ?_
          simp only [Act.put, List.setIfInBounds_toArray, List.set_cons_zero, List.set_cons_succ]
          refine k_val (.slice (some ⟨bl, ol, none⟩) nc cl) (by apply opN; repeat' (first | apply OpAt.z | apply OpAt.s)) (by rfl) (by rfl) (fun _ W hS => op_mv rfl rfl) ?_
          simp only [Act.put, List.setIfInBounds_toArray, List.set_cons_zero, List.set_cons_succ]
          refine k_val (.int .i64 (j : Int)) (by apply opN; repeat' (first | apply OpAt.z | apply OpAt.s)) (by rfl) (by rfl) (fun _ W hS => op_mv rfl rfl) ?_
          simp only [Act.put, List.setIfInBounds_toArray, List.set_cons_zero, List.set_cons_succ]
          refine k_val (.pointer (some ⟨bl, ol + j, none⟩)) (by apply opN; repeat' (first | apply OpAt.z | apply OpAt.s)) (by rfl) (by rfl) (fun _ W hS => op_idx_ll rfl rfl rfl hjmH.out) ?_
          simp only [Act.put, List.setIfInBounds_toArray, List.set_cons_zero, List.set_cons_succ]
          refine k_val (.slice (some ⟨bk, ok, none⟩) nk dk) (by apply opN; repeat' (first | apply OpAt.z | apply OpAt.s)) (by rfl) (by rfl) (fun _ W hS => op_load_sl rfl rfl (pj.out W hS)) ?_
          simp only [Act.put, List.setIfInBounds_toArray, List.set_cons_zero, List.set_cons_succ]
          refine k_val (.pointer (some ⟨bk, ok + 0, none⟩)) (by apply opN; repeat' (first | apply OpAt.z | apply OpAt.s)) (by rfl) (by rfl) (fun _ W hS => op_idx_i (i := 0) rfl rfl rfl hnkP.out) ?_
          simp only [Act.put, List.setIfInBounds_toArray, List.set_cons_zero, List.set_cons_succ]
          refine k_val (.int .i64 h0) (by apply opN; repeat' (first | apply OpAt.z | apply OpAt.s)) (by rfl) (by rfl) (fun _ W hS => op_load_int rfl rfl (ph.out W hS)) ?_
          simp only [Act.put, List.setIfInBounds_toArray, List.set_cons_zero, List.set_cons_succ]
          refine k_val (.slice (some ⟨bl, ol, none⟩) nc cl) (by apply opN; repeat' (first | apply OpAt.z | apply OpAt.s)) (by rfl) (by rfl) (fun _ W hS => op_mv rfl rfl) ?_
          simp only [Act.put, List.setIfInBounds_toArray, List.set_cons_zero, List.set_cons_succ]
          refine k_val (.int .i64 (j : Int)) (by apply opN; repeat' (first | apply OpAt.z | apply OpAt.s)) (by rfl) (by rfl) (fun _ W hS => op_mv rfl rfl) ?_
          simp only [Act.put, List.setIfInBounds_toArray, List.set_cons_zero, List.set_cons_succ]
          refine k_val (.int .i64 (ji : Nat)) (by apply opN; repeat' (first | apply OpAt.z | apply OpAt.s)) (by rfl) (by rfl) (fun _ W hS => op_pred (by have := hjiB.out; omega) rfl (by rw [hji.out]; rfl) rfl) ?_
          simp only [Act.put, List.setIfInBounds_toArray, List.set_cons_zero, List.set_cons_succ]
          refine k_val (.pointer (some ⟨bl, ol + ji, none⟩)) (by apply opN; repeat' (first | apply OpAt.z | apply OpAt.s)) (by rfl) (by rfl) (fun _ W hS => op_idx_ll (i := ji) (n := nc) rfl rfl rfl (by have := hjmH.out; have := hji.out; omega)) ?_
          simp only [Act.put, List.setIfInBounds_toArray, List.set_cons_zero, List.set_cons_succ]
          refine k_val (.slice (some ⟨bp, op, none⟩) np dp) (by apply opN; repeat' (first | apply OpAt.z | apply OpAt.s)) (by rfl) (by rfl) (fun _ W hS => op_load_sl rfl rfl (pp.out W hS)) ?_
          simp only [Act.put, List.setIfInBounds_toArray, List.set_cons_zero, List.set_cons_succ]
          refine k_val (.pointer (some ⟨bp, op + 0, none⟩)) (by apply opN; repeat' (first | apply OpAt.z | apply OpAt.s)) (by rfl) (by rfl) (fun _ W hS => op_idx_i (i := 0) rfl rfl rfl hnpP.out) ?_
          simp only [Act.put, List.setIfInBounds_toArray, List.set_cons_zero, List.set_cons_succ]
          refine k_val (.int .i64 p0) (by apply opN; repeat' (first | apply OpAt.z | apply OpAt.s)) (by rfl) (by rfl) (fun _ W hS => op_load_int rfl rfl (pq.out W hS)) ?_
          simp only [Act.put, List.setIfInBounds_toArray, List.set_cons_zero, List.set_cons_succ]
          refine k_val (.bool false) (by apply opN; repeat' (first | apply OpAt.z | apply OpAt.s)) (by rfl) (by rfl) (fun _ W hS => op_leq (m := h0) (n := p0) (b := false) (decide_eq_false (by have := hlt.out; omega)) rfl rfl rfl) ?_
          simp only [Act.put, List.setIfInBounds_toArray, List.set_cons_zero, List.set_cons_succ]
          refine k_val (.bool false) (by apply opN; repeat' (first | apply OpAt.z | apply OpAt.s)) (by rfl) (by rfl) (fun _ W hS => op_pk rfl rfl rfl rfl rfl) ?_
          simp only [Act.put, List.setIfInBounds_toArray, List.set_cons_zero, List.set_cons_succ]
          refine k_val (.bool false) (by apply opN; repeat' (first | apply OpAt.z | apply OpAt.s)) (by rfl) (by rfl) (fun _ W hS => op_pk rfl rfl rfl rfl rfl) ?_
          simp only [Act.put, List.setIfInBounds_toArray, List.set_cons_zero, List.set_cons_succ]
          refine k_nil ?_
          intro w7 hC hK
          have hB7 := hide hC
          have hO7 := hide hK
          clear hC hK
          go_wp2
          all_goals go_meet
          all_goals exact ⟨rfl, hO7.out, hB7.out⟩
        · have hjz : j = 0 := of_decide_eq_true hbz.symm
          have hj0 := hide hjz
          clear hbz hjz
          refine wp_region_k (fun _ W => Below B5 w4 W) (fun W => IntsO W B5 (.slice (some ⟨gb, 0, none⟩) 14 14) (RW.rwG (RW.mtx ((RW.cls E).take j)))) [] (.op 0 (.op 1 (.op 2 (.op 3 (.op 4 (.op 5 (.op 6 (.op 7 (.op 8 (.op 9 (.op 10 (.op 11 (.op 12 (.op 13 (.op 14 (.op 15 (.op 16 (.op 17 (.op 18 (.op 19 (.op 20 (.op 21 (.op 22 (.op 23 (.op 24 (.op 25 .nil)))))))))))))))))))))))))) (by kernel_rfl) (by kernel_rfl) (by rfl) (by kernel_rfl) (hBw.out.trans (Below.refl _ _).drew) (hO.out.next (Below.refl _ _).drew) ?_
          refine k_val (.slice (some ⟨bl, ol, none⟩) nc cl) (by apply opN; repeat' (first | apply OpAt.z | apply OpAt.s)) (by rfl) (by rfl) (fun _ W hS => op_mv rfl rfl) ?_
          simp only [Act.put, List.setIfInBounds_toArray, List.set_cons_zero, List.set_cons_succ]
          refine k_val (.int .i64 (j : Int)) (by apply opN; repeat' (first | apply OpAt.z | apply OpAt.s)) (by rfl) (by rfl) (fun _ W hS => op_mv rfl rfl) ?_
          simp only [Act.put, List.setIfInBounds_toArray, List.set_cons_zero, List.set_cons_succ]
          refine k_val (.pointer (some ⟨bl, ol + j, none⟩)) (by apply opN; repeat' (first | apply OpAt.z | apply OpAt.s)) (by rfl) (by rfl) (fun _ W hS => op_idx_ll rfl rfl rfl hjmH.out) ?_
          simp only [Act.put, List.setIfInBounds_toArray, List.set_cons_zero, List.set_cons_succ]
          refine k_val (.slice (some ⟨bk, ok, none⟩) nk dk) (by apply opN; repeat' (first | apply OpAt.z | apply OpAt.s)) (by rfl) (by rfl) (fun _ W hS => op_load_sl rfl rfl (pj.out W hS)) ?_
          simp only [Act.put, List.setIfInBounds_toArray, List.set_cons_zero, List.set_cons_succ]
          refine k_val (.int .i64 (nk : Int)) (by apply opN; repeat' (first | apply OpAt.z | apply OpAt.s)) (by rfl) (by rfl) (fun _ W hS => op_len_i rfl rfl) ?_
          simp only [Act.put, List.setIfInBounds_toArray, List.set_cons_zero, List.set_cons_succ]
          refine k_val (.bool false) (by apply opN; repeat' (first | apply OpAt.z | apply OpAt.s)) (by rfl) (by rfl) (fun _ W hS => op_eq0 hnkH.out rfl rfl) ?_
          simp only [Act.put, List.setIfInBounds_toArray, List.set_cons_zero, List.set_cons_succ]
          refine k_val (.bool false) (by apply opN; repeat' (first | apply OpAt.z | apply OpAt.s)) (by rfl) (by rfl) (fun _ W hS => op_mv rfl rfl) ?_
          simp only [Act.put, List.setIfInBounds_toArray, List.set_cons_zero, List.set_cons_succ]
          refine k_val (.int .i64 (j : Int)) (by apply opN; repeat' (first | apply OpAt.z | apply OpAt.s)) (by rfl) (by rfl) (fun _ W hS => op_mv rfl rfl) ?_
          simp only [Act.put, List.setIfInBounds_toArray, List.set_cons_zero, List.set_cons_succ]
          refine k_val (.bool false) (by apply opN; repeat' (first | apply OpAt.z | apply OpAt.s)) (by rfl) (by rfl) (fun _ W hS => op_gt0 (n := j) (b := false) (by rw [hj0.out]; rfl) rfl rfl) ?_
          simp only [Act.put, List.setIfInBounds_toArray, List.set_cons_zero, List.set_cons_succ]
          refine k_val (.bool false) (by apply opN; repeat' (first | apply OpAt.z | apply OpAt.s)) (by rfl) (by rfl) (fun _ W hS => op_mv rfl rfl) ?_
          simp only [Act.put, List.setIfInBounds_toArray, List.set_cons_zero, List.set_cons_succ]
          refine k_skip (by apply opN; repeat' (first | apply OpAt.z | apply OpAt.s)) (by rfl) (by rfl) ?_
          simp only [Act.put, List.setIfInBounds_toArray, List.set_cons_zero, List.set_cons_succ]
          refine k_skip (by apply opN; repeat' (first | apply OpAt.z | apply OpAt.s)) (by rfl) (by rfl) ?_
          simp only [Act.put, List.setIfInBounds_toArray, List.set_cons_zero, List.set_cons_succ]
          refine k_skip (by apply opN; repeat' (first | apply OpAt.z | apply OpAt.s)) (by rfl) (by rfl) ?_
          simp only [Act.put, List.setIfInBounds_toArray, List.set_cons_zero, List.set_cons_succ]
          refine k_skip (by apply opN; repeat' (first | apply OpAt.z | apply OpAt.s)) (by rfl) (by rfl) ?_
          simp only [Act.put, List.setIfInBounds_toArray, List.set_cons_zero, List.set_cons_succ]
          refine k_skip (by apply opN; repeat' (first | apply OpAt.z | apply OpAt.s)) (by rfl) (by rfl) ?_
          simp only [Act.put, List.setIfInBounds_toArray, List.set_cons_zero, List.set_cons_succ]
          refine k_skip (by apply opN; repeat' (first | apply OpAt.z | apply OpAt.s)) (by rfl) (by rfl) ?_
          simp only [Act.put, List.setIfInBounds_toArray, List.set_cons_zero, List.set_cons_succ]
          refine k_skip (by apply opN; repeat' (first | apply OpAt.z | apply OpAt.s)) (by rfl) (by rfl) ?_
          simp only [Act.put, List.setIfInBounds_toArray, List.set_cons_zero, List.set_cons_succ]
          refine k_skip (by apply opN; repeat' (first | apply OpAt.z | apply OpAt.s)) (by rfl) (by rfl) ?_
          simp only [Act.put, List.setIfInBounds_toArray, List.set_cons_zero, List.set_cons_succ]
          refine k_skip (by apply opN; repeat' (first | apply OpAt.z | apply OpAt.s)) (by rfl) (by rfl) ?_
          simp only [Act.put, List.setIfInBounds_toArray, List.set_cons_zero, List.set_cons_succ]
          refine k_skip (by apply opN; repeat' (first | apply OpAt.z | apply OpAt.s)) (by rfl) (by rfl) ?_
          simp only [Act.put, List.setIfInBounds_toArray, List.set_cons_zero, List.set_cons_succ]
          refine k_skip (by apply opN; repeat' (first | apply OpAt.z | apply OpAt.s)) (by rfl) (by rfl) ?_
          simp only [Act.put, List.setIfInBounds_toArray, List.set_cons_zero, List.set_cons_succ]
          refine k_skip (by apply opN; repeat' (first | apply OpAt.z | apply OpAt.s)) (by rfl) (by rfl) ?_
          simp only [Act.put, List.setIfInBounds_toArray, List.set_cons_zero, List.set_cons_succ]
          refine k_skip (by apply opN; repeat' (first | apply OpAt.z | apply OpAt.s)) (by rfl) (by rfl) ?_
          simp only [Act.put, List.setIfInBounds_toArray, List.set_cons_zero, List.set_cons_succ]
          refine k_skip (by apply opN; repeat' (first | apply OpAt.z | apply OpAt.s)) (by rfl) (by rfl) ?_
          simp only [Act.put, List.setIfInBounds_toArray, List.set_cons_zero, List.set_cons_succ]
          refine k_val (.bool false) (by apply opN; repeat' (first | apply OpAt.z | apply OpAt.s)) (by rfl) (by rfl) (fun _ W hS => op_pk rfl rfl rfl rfl rfl) ?_
          simp only [Act.put, List.setIfInBounds_toArray, List.set_cons_zero, List.set_cons_succ]
          refine k_val (.bool false) (by apply opN; repeat' (first | apply OpAt.z | apply OpAt.s)) (by rfl) (by rfl) (fun _ W hS => op_pk rfl rfl rfl rfl rfl) ?_
          simp only [Act.put, List.setIfInBounds_toArray, List.set_cons_zero, List.set_cons_succ]
          refine k_nil ?_
          intro w7 hC hK
          have hB7 := hide hC
          have hO7 := hide hK
          clear hC hK
          go_wp2
          all_goals go_meet
          all_goals exact ⟨rfl, hO7.out, hB7.out⟩
      case rest =>
      obtain ⟨rfl, hOw, hBw'⟩ := hcut
      have hO7 := hide hOw
      have hB7 := hide hBw'
      clear hOw hBw' hO hBw hbz
      rw [← RW.atp_zero] at hO7
      go_wp2
      go_loopw [14] (fun i wr => ∃ k : Nat, i = .int .i64 k ∧ k ≤ nk ∧ Hid (IntsO wr B5 (.slice (some ⟨gb, 0, none⟩) 14 14) (RW.rwG (RW.atp (RW.cls E) j k)) ∧ Below B5 w4 wr)) (fun i _ => nk - (intOf i).toNat)
      case atStart => exact ⟨0, rfl, Nat.zero_le _, hO7.out, hB7.out⟩
      case round =>
        obtain ⟨k, rfl, hk, hQ⟩ := hrel
        obtain ⟨wp, hwp⟩ : ∃ wp, wp = wr := ⟨_, rfl⟩
        subst hwp
        have hO8 := hide hQ.out.1
        have hB8 := hide hQ.out.2
        clear hQ hO7 hB7
        have q1 : wp.cell? ⟨bl, ol + j, none⟩ = some (.slice (some ⟨bk, ok, none⟩) nk dk) := pj.out wp hB8.out
        by_cases hkm : k < nk
        · obtain ⟨m, hm⟩ : ∃ x, (h0 :: r0)[k]? = some x := ⟨_, List.getElem?_eq_getElem (by rw [← hnkL.out]; exact hkm)⟩
          obtain ⟨b', o', hbo, pm⟩ := rowV_pin hrowH.out hm
          cases hbo
          have q2 : wp.cell? ⟨bk, ok + k, none⟩ = some (.int .i64 m) := pin1 (pm wp (hB5H.out ▸ hB8.out))
          have hma : m ∈ RW.accs E := RW.cls_mem E hckH.out (List.mem_of_getElem? hm)
          obtain ⟨em, hem, hem2⟩ := RW.mem_accs.1 hma
          have hms := (hsm.out em hem).1
          rw [hem2] at hms
          obtain ⟨mn, hmn⟩ : ∃ i : Nat, (i : Int) = m := ⟨m.toNat, by omega⟩
          subst hmn
          have hmn14 : mn < 14 := by omega
          have hm1 : ¬ (mn : Int) < 0 := by omega
          have hm2 : ¬ (14 : Int) ≤ mn := by omega
          have hz0 := RW.atp_fresh (RW.cls_dj E) hckH.out (RW.cls_up E hckH.out) hm
          have hcell := ints_at hO8.out (RW.rwG_get (RW.atp (RW.cls E) j k) hmn14)
          rw [hz0] at hcell
          have q3 : wp.cell? ⟨gb, mn, none⟩ = some (.int .i64 0) := hcell.1
          have q4 : wp.frozen? ⟨gb, mn, none⟩ = false := hcell.2
          have hstp := hide (show IntsO (wp.setCell ⟨gb, mn, none⟩ (.int .i64 ((j : Int) + 1))) B5 (.slice (some ⟨gb, 0, none⟩) 14 14) (RW.rwG (RW.atp (RW.cls E) j (k + 1))) by
            have h := IntsO.set1 (L := RW.rwG (RW.atp (RW.cls E) j k)) (c := 14) hO8.out (i := mn) hmn14 ((j : Int) + 1)
            rw [RW.rwG_set _ hmn14] at h
            have e : (fun n : Int => if n = (mn : Int) then (j : Int) + 1 else RW.atp (RW.cls E) j k n) = RW.atp (RW.cls E) j (k + 1) := by
              funext n
              exact (RW.atp_step hckH.out hm n).symm
            rw [e] at h
            exact h)
          have hbs := hide (below_set (i := mn) hB8.out (own_block hO8.out rfl).1 (.int .i64 ((j : Int) + 1)))
          by_cases hk0 : k = 0
          · subst hk0
            have hk01 : ¬ (0 : Int) < ((0 : Nat) : Int) := by decide
            have q2' : wp.cell? ⟨bk, ok, none⟩ = some (.int .i64 (mn : Int)) := q2
            clear hm pm hma hem hem2 hms hz0 hcell hO8
            go_wp2
            go_roundw
            case rel => exact ⟨1, by go_num, by omega, hstp.out, hbs.out⟩
            case measure => simp [intOf]; omega
          · obtain ⟨ki, hki⟩ : ∃ i, k = i + 1 := ⟨k - 1, by omega⟩
            subst hki
            have hk01 : (0 : Int) < ((ki + 1 : Nat) : Int) := by omega
            obtain ⟨p, hp⟩ : ∃ x, (h0 :: r0)[ki]? = some x := ⟨_, List.getElem?_eq_getElem (by rw [← hnkL.out]; omega)⟩
            obtain ⟨b', o', hbo, pp⟩ := rowV_pin hrowH.out hp
            cases hbo
            have q5 : wp.cell? ⟨bk, ok + ki, none⟩ = some (.int .i64 p) := pin1 (pp wp (hB5H.out ▸ hB8.out))
            have hpm : p < (mn : Int) := RW.asc_prev (RW.cls_up E hckH.out) hm hp
            have hpm2 : ¬ (mn : Int) ≤ p := by omega
            have hkw : wrap64 (((ki + 1 : Nat) : Int) - 1) = (ki : Int) := by unfold wrap64; omega
            have hki3 : ki < nk := by omega
            clear hm pm hma hem hem2 hms hz0 hcell hp pp hO8
            go_wp2
            go_roundw
            case rel => exact ⟨ki + 1 + 1, by go_num, by omega, hstp.out, hbs.out⟩
            case measure => simp [intOf]; omega
        · obtain rfl : k = nk := by omega
          rw [hnkL.out, RW.atp_next (RW.cls_dj E) hckH.out] at hO8
          go_wp2
          go_roundw
          case rel => exact ⟨j + 1, by go_num, by omega, hO8.out, hB8.out⟩
          case measure => simp [intOf]; omega
    · obtain rfl : nc = j := by omega
      have htl : (RW.cls E).take nc = RW.cls E := List.take_of_length_le (by rw [← hvlH.out, ← hncH.out]; exact Nat.le_refl _)
      rw [htl] at hO
      clear htl
      have hmk := mk14b
      go_upto_region 20 with fail
      refine gen_w (fun W => W.ownsRow B5 4 1 (.slice (some ⟨wo.heap.size, 0, none⟩) 14 14) 14 (RW.rwB (RW.occ E 0)) ∧ IntsO W B5 (.slice (some ⟨gb, 0, none⟩) 14 14) (RW.rwG (RW.mtx (RW.cls E))) ∧ Below B5 w4 W) ⟨⟨rfl, .inr ⟨wo.heap.size, 14, _, rfl, ts.out wo hBw.out, alloc_at1 _ _, Nat.le_refl _, by unfold maxLen; omega, rfl, rfl⟩⟩, own_keep hO.out (fun g hg => Below.heap_alloc _ _ _ (own_block hO.out hg).2.1), hBw.out.alloc (ts.out wo hBw.out) _⟩ ?_
      obtain ⟨ob, hob⟩ : ∃ g, g = wo.heap.size := ⟨_, rfl⟩
      rw [← hob]
      clear hob hO hBw hmk
      rintro w5 ⟨h1, h2, h3⟩
      have k1 := hide h1
      have k2 := hide h2
      have k3 := hide h3
      clear h1 h2 h3
      go_wp2
      go_loopw [17] (fun i wr => ∃ j : Nat, i = .int .i64 j ∧ j ≤ ne ∧ Hid (wr.ownsRow B5 4 1 (.slice (some ⟨ob, 0, none⟩) 14 14) 14 (RW.rwB (RW.occ E j)) ∧ IntsO wr B5 (.slice (some ⟨gb, 0, none⟩) 14 14) (RW.rwG (RW.mtx (RW.cls E))) ∧ Below B5 w4 wr)) (fun i _ => ne - (intOf i).toNat)
      case atStart => exact ⟨0, rfl, Nat.zero_le _, k1.out, k2.out, k3.out⟩
      case round =>
        obtain ⟨j, rfl, hj, hQ⟩ := hrel
        obtain ⟨wp, hwp⟩ : ∃ wp, wp = wr := ⟨_, rfl⟩
        subst hwp
        have m1 := hide hQ.out.1
        have m2 := hide hQ.out.2.1
        have m3 := hide hQ.out.2.2
        clear hQ k1 k2 k3
        by_cases hjm : j < ne
        · obtain ⟨⟨ac, dv⟩, hx⟩ : ∃ x, E[j]? = some x := ⟨_, List.getElem?_eq_getElem (by rw [← hneH.out]; exact hjm)⟩
          obtain ⟨be, oe, rfl, pe⟩ := rowV_pin (re.out w4 (by rw [hB5H.out]; exact Below.refl _ _)) hx
          have hms := (hsm.out _ (List.mem_of_getElem? hx)).1
          obtain ⟨an, han⟩ : ∃ i : Nat, (i : Int) = ac := ⟨ac.toNat, by omega⟩
          subst han
          have han14 : an < 14 := by omega
          have e0 : wp.cell? ⟨be, oe + j * 2, none⟩ = some (.int .i64 (an : Int)) := pe wp (hB5H.out ▸ m3.out) 0 _ rfl
          have hat := vrow_at m1.out (RW.rwB_get (RW.occ E j) han14)
          have e1 : wp.cell? ⟨ob, an, none⟩ = some (.bool (RW.occ E j an)) := hat.1
          have e2 : wp.frozen? ⟨ob, an, none⟩ = false := hat.2
          have hge := (own_block m1.out rfl).1
          have hne2 : gb ≠ ob := fun e => by
            obtain ⟨c1, q1⟩ := own_cells m2.out rfl
            obtain ⟨c2, q2⟩ := (own_block m1.out rfl).2.2
            exact blocks_ne q1 q2 (by decide) e
          have hs1 := hide (show (wp.setCell ⟨ob, an, none⟩ (.bool true)).ownsRow B5 4 1 (.slice (some ⟨ob, 0, none⟩) 14 14) 14 (RW.rwB (RW.occ E (j + 1))) by
            have h := vrow_set (vs := RW.rwB (RW.occ E j)) (c := 14) (by rw [RW.rwB_len]; exact m1.out) (by rw [RW.rwB_len]; exact han14) (.bool true)
            rw [RW.rwB_set _ han14, RW.rwB_len] at h
            have e : (fun n : Int => if n = (an : Int) then true else RW.occ E j n) = RW.occ E (j + 1) := by
              funext n
              exact (RW.occ_step hx n).symm
            rw [e] at h
            exact h)
          have hs2 := hide (own_keep m2.out (fun g hg => set_else (i := an) wp (.bool true) (show g ≠ ob by cases hg; exact hne2)))
          have hs3 := hide (below_set (i := an) m3.out hge (.bool true))
          clear hx pe hms hat hge hne2
          go_wp2
          go_roundw
          case rel => exact ⟨j + 1, by go_num, by omega, hs1.out, hs2.out, hs3.out⟩
          case measure => simp [intOf]; omega
        · obtain rfl : ne = j := by omega
          obtain ⟨w6, hw6⟩ : ∃ x, x = wp := ⟨_, rfl⟩
          subst hw6
          obtain ⟨B6, hB6⟩ : ∃ b, b = w6.heap.size := ⟨_, rfl⟩
          have hB6H := hide hB6
          have hob6 := (own_block m1.out (g := ob) rfl).2.1
          have hgb6 := (own_block m2.out (g := gb) rfl).2.1
          have co := hide (fun (n : Nat) (hn : n < 14) W (h : Below B6 w6 W) => (show W.cell? ⟨ob, n, none⟩ = some (.bool (!decide (RW.mtx (RW.cls E) n = 0))) by
            rw [World.cell?_of_block (a := ⟨ob, n, none⟩) (h.block _ (by rw [hB6]; exact hob6)), (vrow_at m1.out (RW.rwB_get (RW.occ E ne) hn)).1, ← RW.occ_all, ← hneH.out]))
          have cg := hide (fun (n : Nat) (hn : n < 14) W (h : Below B6 w6 W) => (show W.cell? ⟨gb, n, none⟩ = some (.int .i64 (RW.mtx (RW.cls E) n)) from (World.cell?_of_block (a := ⟨gb, n, none⟩) (h.block _ (by rw [hB6]; exact hgb6))).trans (ints_at m2.out (RW.rwG_get (RW.mtx (RW.cls E)) hn)).1))
          have y4 := hide (fun W (h : Below B6 w6 W) => (show Below B5 w4 W from m3.out.trans (h.mono (by rw [hB6]; exact ts.out _ m3.out))))
          clear hB6 hob6 hgb6
          go_wp2
          go_loopw [18] (fun i wr => ∃ j : Nat, i = .int .i64 j ∧ j ≤ 14 ∧ Hid (Below B6 w6 wr)) (fun i _ => 14 - (intOf i).toNat)
          case atStart => exact ⟨0, rfl, Nat.zero_le _, by rw [hB6H.out]; exact Below.refl _ _⟩
          case round =>
            obtain ⟨q, rfl, hq, hQ⟩ := hrel
            obtain ⟨w7, hw7⟩ : ∃ x, x = wr := ⟨_, rfl⟩
            subst hw7
            have hB7 := hide hQ.out
            clear hQ
            by_cases hqm : q < 14
            · have hqi : (q : Int) < 14 := by omega
              have e0 := co.out q hqm w7 hB7.out
              have e1 := cg.out q hqm w7 hB7.out
              obtain ⟨mq, hmq⟩ : ∃ m, m = RW.mtx (RW.cls E) q := ⟨_, rfl⟩
              rw [← hmq] at e0 e1
              clear hmq
              by_cases hz0 : mq = 0
              · subst hz0
                rw [decide_eq_true rfl, Bool.not_true] at e0
                go_wp2
                go_quiet (fail)
                go_wp2
                go_roundw
                case rel => exact ⟨q + 1, by go_num, by omega, ⟨hB7.out.os, hB7.out.tape, hB7.out.output, hB7.out.size, hB7.out.block⟩⟩
                case measure => simp [intOf]; omega
              · rw [decide_eq_false hz0, Bool.not_false] at e0
                have hz1 : (mq == 0) = false := by simp [hz0]
                have hz2 : (mq != 0) = true := by simp [hz0]
                go_wp2
                go_quiet (fail)
                go_wp2
                go_roundw
                case rel => exact ⟨q + 1, by go_num, by omega, ⟨hB7.out.os, hB7.out.tape, hB7.out.output, hB7.out.size, hB7.out.block⟩⟩
                case measure => simp [intOf]; omega
            · obtain rfl : q = 14 := by omega
              have hBz := hB7
              obtain ⟨xn, hxn⟩ : ∃ i : Nat, (i : Int) = x := ⟨x.toNat, by have := hxbH.out; omega⟩
              obtain ⟨yn, hyn⟩ : ∃ i : Nat, (i : Int) = y := ⟨y.toNat, by have := hybH.out; omega⟩
              have hxb := hxbH.out
              have hyb := hybH.out
              subst hxn
              subst hyn
              have xn14 := hide (show xn < 14 by omega)
              have yn14 := hide (show yn < 14 by omega)
              have hprt := RW.jn_prt E xn yn
              obtain ⟨pr, hprd⟩ : ∃ p, p = RW.prt E xn yn := ⟨_, rfl⟩
              rw [← hprd] at hprt
              have hpr := hide (show pr = (decide (xn = yn) || (!decide (RW.mtx (RW.cls E) xn = 0) && decide (RW.mtx (RW.cls E) xn = RW.mtx (RW.cls E) yn))) by
                rw [hprd, RW.prt]
                congr 1
                exact decide_eq_decide.2 (by omega))
              have hj1 := hide hprt
              have hj2 := hide ((RW.jn_symm E yn xn).trans hprt)
              clear hxb hyb hprd hprt hB7
              go_upto_region 29 with fail
              go_cut [19] (fun s wx => s = .bool pr ∧ Below B6 w6 wx)
              case first =>
                by_cases hxyc : (xn : Int) = yn
                · have hxyn : xn = yn := by omega
                  have hxy := hide hxyc
                  have hxyN := hide hxyn
                  clear hxyc hxyn
                  refine wp_region_k (fun _ W => Below B6 w6 W) (fun _ => True) [] (.op 0 (.op 1 (.op 2 (.op 3 (.op 4 (.op 5 (.op 6 (.op 7 (.op 8 (.op 9 (.op 10 (.op 11 (.op 12 (.op 13 (.op 14 (.op 15 (.op 16 (.op 17 (.op 18 (.op 19 (.op 20 (.op 21 .nil)))))))))))))))))))))) (by kernel_rfl) (by kernel_rfl) (by rfl) (by kernel_rfl) (hBz.out.trans (Below.refl _ _).drew) trivial ?_
                  refine k_val (.int .i64 (xn : Int)) (by apply opN; repeat' (first | apply OpAt.z | apply OpAt.s)) (by rfl) (by rfl) (fun _ W hS => op_mv rfl rfl) ?_
                  simp only [Act.put, List.setIfInBounds_toArray, List.set_cons_zero, List.set_cons_succ]
                  refine k_val (.int .i64 (yn : Int)) (by apply opN; repeat' (first | apply OpAt.z | apply OpAt.s)) (by rfl) (by rfl) (fun _ W hS => op_mv rfl rfl) ?_
                  simp only [Act.put, List.setIfInBounds_toArray, List.set_cons_zero, List.set_cons_succ]
                  refine k_val (.bool true) (by apply opN; repeat' (first | apply OpAt.z | apply OpAt.s)) (by rfl) (by rfl) (fun _ W hS => op_eqi (m := xn) (n := yn) (decide_eq_true hxy.out) rfl rfl rfl) ?_
                  simp only [Act.put, List.setIfInBounds_toArray, List.set_cons_zero, List.set_cons_succ]
                  refine k_val (.bool true) (by apply opN; repeat' (first | apply OpAt.z | apply OpAt.s)) (by rfl) (by rfl) (fun _ W hS => op_mv rfl rfl) ?_
                  simp only [Act.put, List.setIfInBounds_toArray, List.set_cons_zero, List.set_cons_succ]
                  refine k_skip (by apply opN; repeat' (first | apply OpAt.z | apply OpAt.s)) (by rfl) (by rfl) ?_
                  simp only [Act.put, List.setIfInBounds_toArray, List.set_cons_zero, List.set_cons_succ]
                  refine k_skip (by apply opN; repeat' (first | apply OpAt.z | apply OpAt.s)) (by rfl) (by rfl) ?_
                  simp only [Act.put, List.setIfInBounds_toArray, List.set_cons_zero, List.set_cons_succ]
                  refine k_skip (by apply opN; repeat' (first | apply OpAt.z | apply OpAt.s)) (by rfl) (by rfl) ?_
                  simp only [Act.put, List.setIfInBounds_toArray, List.set_cons_zero, List.set_cons_succ]
                  refine k_skip (by apply opN; repeat' (first | apply OpAt.z | apply OpAt.s)) (by rfl) (by rfl) ?_
                  simp only [Act.put, List.setIfInBounds_toArray, List.set_cons_zero, List.set_cons_succ]
                  refine k_skip (by apply opN; repeat' (first | apply OpAt.z | apply OpAt.s)) (by rfl) (by rfl) ?_
                  simp only [Act.put, List.setIfInBounds_toArray, List.set_cons_zero, List.set_cons_succ]
                  refine k_skip (by apply opN; repeat' (first | apply OpAt.z | apply OpAt.s)) (by rfl) (by rfl) ?_
                  simp only [Act.put, List.setIfInBounds_toArray, List.set_cons_zero, List.set_cons_succ]
                  refine k_skip (by apply opN; repeat' (first | apply OpAt.z | apply OpAt.s)) (by rfl) (by rfl) ?_
                  simp only [Act.put, List.setIfInBounds_toArray, List.set_cons_zero, List.set_cons_succ]
                  refine k_skip (by apply opN; repeat' (first | apply OpAt.z | apply OpAt.s)) (by rfl) (by rfl) ?_
                  simp only [Act.put, List.setIfInBounds_toArray, List.set_cons_zero, List.set_cons_succ]
                  refine k_skip (by apply opN; repeat' (first | apply OpAt.z | apply OpAt.s)) (by rfl) (by rfl) ?_
                  simp only [Act.put, List.setIfInBounds_toArray, List.set_cons_zero, List.set_cons_succ]
                  refine k_skip (by apply opN; repeat' (first | apply OpAt.z | apply OpAt.s)) (by rfl) (by rfl) ?_
                  simp only [Act.put, List.setIfInBounds_toArray, List.set_cons_zero, List.set_cons_succ]
                  refine k_skip (by apply opN; repeat' (first | apply OpAt.z | apply OpAt.s)) (by rfl) (by rfl) ?_
                  simp only [Act.put, List.setIfInBounds_toArray, List.set_cons_zero, List.set_cons_succ]
                  refine k_skip (by apply opN; repeat' (first | apply OpAt.z | apply OpAt.s)) (by rfl) (by rfl) ?_
                  simp only [Act.put, List.setIfInBounds_toArray, List.set_cons_zero, List.set_cons_succ]
                  refine k_skip (by apply opN; repeat' (first | apply OpAt.z | apply OpAt.s)) (by rfl) (by rfl) ?_
                  simp only [Act.put, List.setIfInBounds_toArray, List.set_cons_zero, List.set_cons_succ]
                  refine k_skip (by apply opN; repeat' (first | apply OpAt.z | apply OpAt.s)) (by rfl) (by rfl) ?_
                  simp only [Act.put, List.setIfInBounds_toArray, List.set_cons_zero, List.set_cons_succ]
                  refine k_skip (by apply opN; repeat' (first | apply OpAt.z | apply OpAt.s)) (by rfl) (by rfl) ?_
                  simp only [Act.put, List.setIfInBounds_toArray, List.set_cons_zero, List.set_cons_succ]
                  refine k_skip (by apply opN; repeat' (first | apply OpAt.z | apply OpAt.s)) (by rfl) (by rfl) ?_
                  simp only [Act.put, List.setIfInBounds_toArray, List.set_cons_zero, List.set_cons_succ]
                  refine k_val (.bool true) (by apply opN; repeat' (first | apply OpAt.z | apply OpAt.s)) (by rfl) (by rfl) (fun _ W hS => op_pk rfl rfl rfl rfl rfl) ?_
                  simp only [Act.put, List.setIfInBounds_toArray, List.set_cons_zero, List.set_cons_succ]
                  refine k_val (.bool true) (by apply opN; repeat' (first | apply OpAt.z | apply OpAt.s)) (by rfl) (by rfl) (fun _ W hS => op_asg rfl rfl) ?_
                  simp only [Act.put, List.setIfInBounds_toArray, List.set_cons_zero, List.set_cons_succ]
                  refine k_nil ?_
                  intro W hC _
                  have hBn := hide hC
                  clear hC
                  go_wp2
                  all_goals go_meet
                  all_goals exact ⟨by rw [hpr.out, decide_eq_true hxyN.out] <;> rfl, hBn.out⟩
                · have hxyn : ¬ xn = yn := by omega
                  have hxy := hide hxyc
                  have hxyN := hide hxyn
                  clear hxyc hxyn
                  by_cases hm0c : RW.mtx (RW.cls E) xn = 0
                  · have hm0 := hide hm0c
                    clear hm0c
                    refine wp_region_k (fun _ W => Below B6 w6 W) (fun _ => True) [] (.op 0 (.op 1 (.op 2 (.op 3 (.op 4 (.op 5 (.op 6 (.op 7 (.op 8 (.op 9 (.op 10 (.op 11 (.op 12 (.op 13 (.op 14 (.op 15 (.op 16 (.op 17 (.op 18 (.op 19 (.op 20 (.op 21 .nil)))))))))))))))))))))) (by kernel_rfl) (by kernel_rfl) (by rfl) (by kernel_rfl) (hBz.out.trans (Below.refl _ _).drew) trivial ?_
                    refine k_val (.int .i64 (xn : Int)) (by apply opN; repeat' (first | apply OpAt.z | apply OpAt.s)) (by rfl) (by rfl) (fun _ W hS => op_mv rfl rfl) ?_
                    simp only [Act.put, List.setIfInBounds_toArray, List.set_cons_zero, List.set_cons_succ]
                    refine k_val (.int .i64 (yn : Int)) (by apply opN; repeat' (first | apply OpAt.z | apply OpAt.s)) (by rfl) (by rfl) (fun _ W hS => op_mv rfl rfl) ?_
                    simp only [Act.put, List.setIfInBounds_toArray, List.set_cons_zero, List.set_cons_succ]
                    refine k_val (.bool false) (by apply opN; repeat' (first | apply OpAt.z | apply OpAt.s)) (by rfl) (by rfl) (fun _ W hS => op_eqi (m := xn) (n := yn) (decide_eq_false hxy.out) rfl rfl rfl) ?_
                    simp only [Act.put, List.setIfInBounds_toArray, List.set_cons_zero, List.set_cons_succ]
                    refine k_val (.bool false) (by apply opN; repeat' (first | apply OpAt.z | apply OpAt.s)) (by rfl) (by rfl) (fun _ W hS => op_mv rfl rfl) ?_
                    simp only [Act.put, List.setIfInBounds_toArray, List.set_cons_zero, List.set_cons_succ]
                    refine k_val (.slice (some ⟨gb, 0, none⟩) 14 14) (by apply opN; repeat' (first | apply OpAt.z | apply OpAt.s)) (by rfl) (by rfl) (fun _ W hS => op_mv rfl rfl) ?_
                    simp only [Act.put, List.setIfInBounds_toArray, List.set_cons_zero, List.set_cons_succ]
                    refine k_val (.int .i64 (xn : Int)) (by apply opN; repeat' (first | apply OpAt.z | apply OpAt.s)) (by rfl) (by rfl) (fun _ W hS => op_mv rfl rfl) ?_
                    simp only [Act.put, List.setIfInBounds_toArray, List.set_cons_zero, List.set_cons_succ]
                    refine k_val (.pointer (some ⟨gb, 0 + xn, none⟩)) (by apply opN; repeat' (first | apply OpAt.z | apply OpAt.s)) (by rfl) (by rfl) (fun _ W hS => op_idx_i rfl rfl rfl xn14.out) ?_
                    simp only [Act.put, List.setIfInBounds_toArray, List.set_cons_zero, List.set_cons_succ]
                    refine k_val (.int .i64 (RW.mtx (RW.cls E) xn)) (by apply opN; repeat' (first | apply OpAt.z | apply OpAt.s)) (by rfl) (by rfl) (fun _ W hS => op_load_int rfl rfl ((congrArg W.cell? (by rw [Nat.zero_add])).trans (cg.out xn xn14.out W hS))) ?_
                    simp only [Act.put, List.setIfInBounds_toArray, List.set_cons_zero, List.set_cons_succ]
                    refine k_val (.bool false) (by apply opN; repeat' (first | apply OpAt.z | apply OpAt.s)) (by rfl) (by rfl) (fun _ W hS => op_nei0 (m := RW.mtx (RW.cls E) xn) (decide_eq_true hm0.out) rfl rfl rfl) ?_
                    simp only [Act.put, List.setIfInBounds_toArray, List.set_cons_zero, List.set_cons_succ]
                    refine k_val (.bool false) (by apply opN; repeat' (first | apply OpAt.z | apply OpAt.s)) (by rfl) (by rfl) (fun _ W hS => op_mv rfl rfl) ?_
                    simp only [Act.put, List.setIfInBounds_toArray, List.set_cons_zero, List.set_cons_succ]
                    refine k_skip (by apply opN; repeat' (first | apply OpAt.z | apply OpAt.s)) (by rfl) (by rfl) ?_
                    simp only [Act.put, List.setIfInBounds_toArray, List.set_cons_zero, List.set_cons_succ]
                    refine k_skip (by apply opN; repeat' (first | apply OpAt.z | apply OpAt.s)) (by rfl) (by rfl) ?_
                    simp only [Act.put, List.setIfInBounds_toArray, List.set_cons_zero, List.set_cons_succ]
                    refine k_skip (by apply opN; repeat' (first | apply OpAt.z | apply OpAt.s)) (by rfl) (by rfl) ?_
                    simp only [Act.put, List.setIfInBounds_toArray, List.set_cons_zero, List.set_cons_succ]
                    refine k_skip (by apply opN; repeat' (first | apply OpAt.z | apply OpAt.s)) (by rfl) (by rfl) ?_
                    simp only [Act.put, List.setIfInBounds_toArray, List.set_cons_zero, List.set_cons_succ]
                    refine k_skip (by apply opN; repeat' (first | apply OpAt.z | apply OpAt.s)) (by rfl) (by rfl) ?_
                    simp only [Act.put, List.setIfInBounds_toArray, List.set_cons_zero, List.set_cons_succ]
                    refine k_skip (by apply opN; repeat' (first | apply OpAt.z | apply OpAt.s)) (by rfl) (by rfl) ?_
                    simp only [Act.put, List.setIfInBounds_toArray, List.set_cons_zero, List.set_cons_succ]
                    refine k_skip (by apply opN; repeat' (first | apply OpAt.z | apply OpAt.s)) (by rfl) (by rfl) ?_
                    simp only [Act.put, List.setIfInBounds_toArray, List.set_cons_zero, List.set_cons_succ]
                    refine k_skip (by apply opN; repeat' (first | apply OpAt.z | apply OpAt.s)) (by rfl) (by rfl) ?_
                    simp only [Act.put, List.setIfInBounds_toArray, List.set_cons_zero, List.set_cons_succ]
                    refine k_skip (by apply opN; repeat' (first | apply OpAt.z | apply OpAt.s)) (by rfl) (by rfl) ?_
                    simp only [Act.put, List.setIfInBounds_toArray, List.set_cons_zero, List.set_cons_succ]
                    refine k_val (.bool false) (by apply opN; repeat' (first | apply OpAt.z | apply OpAt.s)) (by rfl) (by rfl) (fun _ W hS => op_pk rfl rfl rfl rfl rfl) ?_
                    simp only [Act.put, List.setIfInBounds_toArray, List.set_cons_zero, List.set_cons_succ]
                    refine k_val (.bool false) (by apply opN; repeat' (first | apply OpAt.z | apply OpAt.s)) (by rfl) (by rfl) (fun _ W hS => op_pk rfl rfl rfl rfl rfl) ?_
                    simp only [Act.put, List.setIfInBounds_toArray, List.set_cons_zero, List.set_cons_succ]
                    refine k_val (.bool false) (by apply opN; repeat' (first | apply OpAt.z | apply OpAt.s)) (by rfl) (by rfl) (fun _ W hS => op_asg rfl rfl) ?_
                    simp only [Act.put, List.setIfInBounds_toArray, List.set_cons_zero, List.set_cons_succ]
                    refine k_nil ?_
                    intro W hC _
                    have hBn := hide hC
                    clear hC
                    go_wp2
                    all_goals go_meet
                    all_goals exact ⟨by rw [hpr.out, decide_eq_false hxyN.out, decide_eq_true hm0.out] <;> rfl, hBn.out⟩
                  · have hm0 := hide hm0c
                    clear hm0c
                    refine wp_region_k (fun _ W => Below B6 w6 W) (fun _ => True) [] (.op 0 (.op 1 (.op 2 (.op 3 (.op 4 (.op 5 (.op 6 (.op 7 (.op 8 (.op 9 (.op 10 (.op 11 (.op 12 (.op 13 (.op 14 (.op 15 (.op 16 (.op 17 (.op 18 (.op 19 (.op 20 (.op 21 .nil)))))))))))))))))))))) (by kernel_rfl) (by kernel_rfl) (by rfl) (by kernel_rfl) (hBz.out.trans (Below.refl _ _).drew) trivial ?_
                    refine k_val (.int .i64 (xn : Int)) (by apply opN; repeat' (first | apply OpAt.z | apply OpAt.s)) (by rfl) (by rfl) (fun _ W hS => op_mv rfl rfl) ?_
                    simp only [Act.put, List.setIfInBounds_toArray, List.set_cons_zero, List.set_cons_succ]
                    refine k_val (.int .i64 (yn : Int)) (by apply opN; repeat' (first | apply OpAt.z | apply OpAt.s)) (by rfl) (by rfl) (fun _ W hS => op_mv rfl rfl) ?_
                    simp only [Act.put, List.setIfInBounds_toArray, List.set_cons_zero, List.set_cons_succ]
                    refine k_val (.bool false) (by apply opN; repeat' (first | apply OpAt.z | apply OpAt.s)) (by rfl) (by rfl) (fun _ W hS => op_eqi (m := xn) (n := yn) (decide_eq_false hxy.out) rfl rfl rfl) ?_
                    simp only [Act.put, List.setIfInBounds_toArray, List.set_cons_zero, List.set_cons_succ]
                    refine k_val (.bool false) (by apply opN; repeat' (first | apply OpAt.z | apply OpAt.s)) (by rfl) (by rfl) (fun _ W hS => op_mv rfl rfl) ?_
                    simp only [Act.put, List.setIfInBounds_toArray, List.set_cons_zero, List.set_cons_succ]
                    refine k_val (.slice (some ⟨gb, 0, none⟩) 14 14) (by apply opN; repeat' (first | apply OpAt.z | apply OpAt.s)) (by rfl) (by rfl) (fun _ W hS => op_mv rfl rfl) ?_
                    simp only [Act.put, List.setIfInBounds_toArray, List.set_cons_zero, List.set_cons_succ]
                    refine k_val (.int .i64 (xn : Int)) (by apply opN; repeat' (first | apply OpAt.z | apply OpAt.s)) (by rfl) (by rfl) (fun _ W hS => op_mv rfl rfl) ?_
                    simp only [Act.put, List.setIfInBounds_toArray, List.set_cons_zero, List.set_cons_succ]
                    refine k_val (.pointer (some ⟨gb, 0 + xn, none⟩)) (by apply opN; repeat' (first | apply OpAt.z | apply OpAt.s)) (by rfl) (by rfl) (fun _ W hS => op_idx_i rfl rfl rfl xn14.out) ?_
                    simp only [Act.put, List.setIfInBounds_toArray, List.set_cons_zero, List.set_cons_succ]
                    refine k_val (.int .i64 (RW.mtx (RW.cls E) xn)) (by apply opN; repeat' (first | apply OpAt.z | apply OpAt.s)) (by rfl) (by rfl) (fun _ W hS => op_load_int rfl rfl ((congrArg W.cell? (by rw [Nat.zero_add])).trans (cg.out xn xn14.out W hS))) ?_
                    simp only [Act.put, List.setIfInBounds_toArray, List.set_cons_zero, List.set_cons_succ]
                    refine k_val (.bool true) (by apply opN; repeat' (first | apply OpAt.z | apply OpAt.s)) (by rfl) (by rfl) (fun _ W hS => op_nei0 (m := RW.mtx (RW.cls E) xn) (decide_eq_false hm0.out) rfl rfl rfl) ?_
                    simp only [Act.put, List.setIfInBounds_toArray, List.set_cons_zero, List.set_cons_succ]
                    refine k_val (.bool true) (by apply opN; repeat' (first | apply OpAt.z | apply OpAt.s)) (by rfl) (by rfl) (fun _ W hS => op_mv rfl rfl) ?_
                    simp only [Act.put, List.setIfInBounds_toArray, List.set_cons_zero, List.set_cons_succ]
                    refine k_val (.slice (some ⟨gb, 0, none⟩) 14 14) (by apply opN; repeat' (first | apply OpAt.z | apply OpAt.s)) (by rfl) (by rfl) (fun _ W hS => op_mv rfl rfl) ?_
                    simp only [Act.put, List.setIfInBounds_toArray, List.set_cons_zero, List.set_cons_succ]
                    refine k_val (.int .i64 (xn : Int)) (by apply opN; repeat' (first | apply OpAt.z | apply OpAt.s)) (by rfl) (by rfl) (fun _ W hS => op_mv rfl rfl) ?_
                    simp only [Act.put, List.setIfInBounds_toArray, List.set_cons_zero, List.set_cons_succ]
                    refine k_val (.pointer (some ⟨gb, 0 + xn, none⟩)) (by apply opN; repeat' (first | apply OpAt.z | apply OpAt.s)) (by rfl) (by rfl) (fun _ W hS => op_idx_i rfl rfl rfl xn14.out) ?_
                    simp only [Act.put, List.setIfInBounds_toArray, List.set_cons_zero, List.set_cons_succ]
                    refine k_val (.int .i64 (RW.mtx (RW.cls E) xn)) (by apply opN; repeat' (first | apply OpAt.z | apply OpAt.s)) (by rfl) (by rfl) (fun _ W hS => op_load_int rfl rfl ((congrArg W.cell? (by rw [Nat.zero_add])).trans (cg.out xn xn14.out W hS))) ?_
                    simp only [Act.put, List.setIfInBounds_toArray, List.set_cons_zero, List.set_cons_succ]
                    refine k_val (.slice (some ⟨gb, 0, none⟩) 14 14) (by apply opN; repeat' (first | apply OpAt.z | apply OpAt.s)) (by rfl) (by rfl) (fun _ W hS => op_mv rfl rfl) ?_
                    simp only [Act.put, List.setIfInBounds_toArray, List.set_cons_zero, List.set_cons_succ]
                    refine k_val (.int .i64 (yn : Int)) (by apply opN; repeat' (first | apply OpAt.z | apply OpAt.s)) (by rfl) (by rfl) (fun _ W hS => op_mv rfl rfl) ?_
                    simp only [Act.put, List.setIfInBounds_toArray, List.set_cons_zero, List.set_cons_succ]
                    refine k_val (.pointer (some ⟨gb, 0 + yn, none⟩)) (by apply opN; repeat' (first | apply OpAt.z | apply OpAt.s)) (by rfl) (by rfl) (fun _ W hS => op_idx_i rfl rfl rfl yn14.out) ?_
                    simp only [Act.put, List.setIfInBounds_toArray, List.set_cons_zero, List.set_cons_succ]
                    refine k_val (.int .i64 (RW.mtx (RW.cls E) yn)) (by apply opN; repeat' (first | apply OpAt.z | apply OpAt.s)) (by rfl) (by rfl) (fun _ W hS => op_load_int rfl rfl ((congrArg W.cell? (by rw [Nat.zero_add])).trans (cg.out yn yn14.out W hS))) ?_
                    simp only [Act.put, List.setIfInBounds_toArray, List.set_cons_zero, List.set_cons_succ]
                    refine k_val (.bool (decide (RW.mtx (RW.cls E) xn = RW.mtx (RW.cls E) yn))) (by apply opN; repeat' (first | apply OpAt.z | apply OpAt.s)) (by rfl) (by rfl) (fun _ W hS => op_eqi rfl rfl rfl rfl) ?_
                    simp only [Act.put, List.setIfInBounds_toArray, List.set_cons_zero, List.set_cons_succ]
                    refine k_val (.bool (decide (RW.mtx (RW.cls E) xn = RW.mtx (RW.cls E) yn))) (by apply opN; repeat' (first | apply OpAt.z | apply OpAt.s)) (by rfl) (by rfl) (fun _ W hS => op_pk rfl rfl rfl rfl rfl) ?_
                    simp only [Act.put, List.setIfInBounds_toArray, List.set_cons_zero, List.set_cons_succ]
                    refine k_val (.bool (decide (RW.mtx (RW.cls E) xn = RW.mtx (RW.cls E) yn))) (by apply opN; repeat' (first | apply OpAt.z | apply OpAt.s)) (by rfl) (by rfl) (fun _ W hS => op_pk rfl rfl rfl rfl rfl) ?_
                    simp only [Act.put, List.setIfInBounds_toArray, List.set_cons_zero, List.set_cons_succ]
                    refine k_val (.bool (decide (RW.mtx (RW.cls E) xn = RW.mtx (RW.cls E) yn))) (by apply opN; repeat' (first | apply OpAt.z | apply OpAt.s)) (by rfl) (by rfl) (fun _ W hS => op_asg rfl rfl) ?_
                    simp only [Act.put, List.setIfInBounds_toArray, List.set_cons_zero, List.set_cons_succ]
                    refine k_nil ?_
                    intro W hC _
                    have hBn := hide hC
                    clear hC
                    go_wp2
                    all_goals go_meet
                    all_goals exact ⟨by rw [hpr.out, decide_eq_false hxyN.out, decide_eq_false hm0.out] <;> rfl, hBn.out⟩
              case rest =>
              obtain ⟨rfl, hBc⟩ := hcut
              have r9 := hide (re.out _ (y4.out _ hBc))
              have b9 := hide (rb.out _ (y4.out _ hBc))
              clear hBc hBz hpr co cg
              have arm := hJn
              cases pr
              · go_wp2_with (go_at_call 14; refine (hJn.out _ _ _ r9.out).mono ?_; rintro e w9 ⟨rfl, g⟩; (first | rw [hj1.out] | rw [hj2.out]); have r9 := hide (r9.out.next g); have b9 := hide (b9.out.trans (g.mono (hsz.out _ b9.out))); clear g)
                go_ret
                exact ⟨rfl, hBH.out ▸ b9.out⟩
              · go_wp2_with (go_at_call 14; refine (hJn.out _ _ _ r9.out).mono ?_; rintro e w9 ⟨rfl, g⟩; (first | rw [hj1.out] | rw [hj2.out]); have r9 := hide (r9.out.next g); have b9 := hide (b9.out.trans (g.mono (hsz.out _ b9.out))); clear g)
                go_ret
                exact ⟨rfl, hBH.out ▸ b9.out⟩
end Go.Proofs.Ytbmlfejlmedmgaa

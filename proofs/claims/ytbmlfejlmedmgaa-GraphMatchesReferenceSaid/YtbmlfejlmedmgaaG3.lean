/-
  Package graph: of: the clusters of a graph's edges; only new memory is written.
-/
import Derived.Test.YtbmlfejlmedmgaaG2
namespace Go.Proofs.Ytbmlfejlmedmgaa
open Go.RowKit RG
/-- clusters in memory: the struct in block cb holds the map in block mb and the values ra, rd; the rows va and vd are the call's own -/
structure Cl0 (W : World) (B cb mb : Nat) (ra rd va vd : Value) (R : RW.Nd → RW.Nd) (A D : List Int) : Prop where
  row : W.heap[cb]? = some (.cells #[.map (some mb), ra, rd] 49 (0, 0))
  fo : FoA W mb R
  oa : IntsO W B va A
  od : IntsO W B vd D
  ne : ∀ g, va.ownBlock = some g → vd.ownBlock ≠ some g
  hb : B ≤ cb
  hm : B ≤ mb
section
variable {W W' : World} {B cb mb : Nat} {ra rd va vd v' : Value} {R R' : RW.Nd → RW.Nd} {A D L : List Int}
theorem own_cells {W : World} {B : Nat} {v : Value} {l : List Int} (h : IntsO W B v l) {g : Nat} (hg : v.ownBlock = some g) : ∃ cur, W.heap[g]? = some (.cells cur 3 (0, 0)) := (own_block h hg).2.2
theorem Cl0.lt (h : Cl0 W B cb mb ra rd va vd R A D) : cb < W.heap.size ∧ mb < W.heap.size := ⟨(Array.getElem?_eq_some_iff.1 h.row).1, h.fo.lt⟩
theorem Cl0.cm (h : Cl0 W B cb mb ra rd va vd R A D) : cb ≠ mb := h.fo.cells h.row
theorem Cl0.oc (h : Cl0 W B cb mb ra rd va vd R A D) : va.ownBlock ≠ some cb ∧ vd.ownBlock ≠ some cb ∧ va.ownBlock ≠ some mb ∧ vd.ownBlock ≠ some mb := by
  refine ⟨fun e => ?_, fun e => ?_, fun e => ?_, fun e => ?_⟩
  · obtain ⟨cur, h1⟩ := own_cells h.oa e
    exact blocks_ne h1 h.row (by decide) rfl
  · obtain ⟨cur, h1⟩ := own_cells h.od e
    exact blocks_ne h1 h.row (by decide) rfl
  · obtain ⟨cur, h1⟩ := own_cells h.oa e
    exact h.fo.cells h1 rfl
  · obtain ⟨cur, h1⟩ := own_cells h.od e
    exact h.fo.cells h1 rfl
theorem Cl0.next (h : Cl0 W B cb mb ra rd va vd R A D) (hB : Below W.heap.size W W') : Cl0 W' B cb mb ra rd va vd R A D :=
  ⟨(hB.block _ h.lt.1).trans h.row, h.fo.keep (hB.block _ h.lt.2), own_keep h.oa fun g hg => hB.block _ (own_block h.oa hg).2.1, own_keep h.od fun g hg => hB.block _ (own_block h.od hg).2.1, h.ne, h.hb, h.hm⟩
theorem Cl0.forest (h : Cl0 W B cb mb ra rd va vd R A D) (hF : FoA W' mb R') (hC : ChgS (fun j => j = mb) W W') : Cl0 W' B cb mb ra rd va vd R' A D :=
  ⟨(hC.block _ h.lt.1 h.cm).trans h.row, hF, own_keep h.oa fun g hg => hC.block _ (own_block h.oa hg).2.1 (fun e => h.oc.2.2.1 (e ▸ hg)), own_keep h.od fun g hg => hC.block _ (own_block h.od hg).2.1 (fun e => h.oc.2.2.2 (e ▸ hg)), h.ne, h.hb, h.hm⟩
theorem Cl0.accs (h : Cl0 W B cb mb ra rd va vd R A D) (hO : IntsO W' B v' L) (hC : ChgS (fun j => va.ownBlock = some j) W W') (hv : v'.ownBlock = va.ownBlock ∨ v'.ownBlock = some W.heap.size) : Cl0 W' B cb mb ra rd v' vd R L D :=
  ⟨(hC.block _ h.lt.1 h.oc.1).trans h.row, h.fo.chg hC h.oc.2.2.1, hO, own_keep h.od fun g hg => hC.block _ (own_block h.od hg).2.1 (fun e => h.ne g e hg), fun g hg hd => by
    rcases hv with e | e
    · exact h.ne g (e ▸ hg) hd
    · rw [e] at hg
      cases hg
      exact Nat.lt_irrefl _ (own_block h.od hd).2.1, h.hb, h.hm⟩
theorem Cl0.devs (h : Cl0 W B cb mb ra rd va vd R A D) (hO : IntsO W' B v' L) (hC : ChgS (fun j => vd.ownBlock = some j) W W') (hv : v'.ownBlock = vd.ownBlock ∨ v'.ownBlock = some W.heap.size) : Cl0 W' B cb mb ra rd va v' R A L :=
  ⟨(hC.block _ h.lt.1 h.oc.2.1).trans h.row, h.fo.chg hC h.oc.2.2.2, own_keep h.oa fun g hg => hC.block _ (own_block h.oa hg).2.1 (fun e => h.ne g hg e), hO, fun g hg hd => by
    rcases hv with e | e
    · exact h.ne g hg (e ▸ hd)
    · rw [e] at hd
      cases hd
      exact Nat.lt_irrefl _ (own_block h.oa hg).2.1, h.hb, h.hm⟩
theorem Cl0.setc (h : Cl0 W B cb mb ra rd va vd R A D) (i : Nat) (v xa xd : Value) (hr : (#[.map (some mb), ra, rd] : Array Value).setIfInBounds i v = #[.map (some mb), xa, xd]) : Cl0 (W.setCell ⟨cb, i, none⟩ v) B cb mb xa xd va vd R A D :=
  ⟨by rw [heap_setCell_same _ _ _ _ _ _ h.row, hr], h.fo.keep (set_else _ _ (Ne.symm h.cm)), own_keep h.oa fun g hg => set_else _ _ (fun e => h.oc.1 (e ▸ hg)), own_keep h.od fun g hg => set_else _ _ (fun e => h.oc.2.1 (e ▸ hg)), h.ne, h.hb, h.hm⟩
theorem Cl0.cell (h : Cl0 W B cb mb ra rd va vd R A D) : W.cell? ⟨cb, 0, none⟩ = some (.map (some mb)) ∧ W.cell? ⟨cb, 1, none⟩ = some ra ∧ W.cell? ⟨cb, 2, none⟩ = some rd := ⟨cellAt h.row 0, cellAt h.row 1, cellAt h.row 2⟩
theorem Cl0.bel (h : Cl0 W B cb mb ra rd va vd R A D) {Q : Nat → Prop} (hC : ChgS Q W W') (hq : ∀ j, Q j → j = cb ∨ j = mb ∨ va.ownBlock = some j ∨ vd.ownBlock = some j) : Below B W W' :=
  hC.below (fun k hk => by
    rcases hq k hk with e | e | e | e
    · rw [e]; exact h.hb
    · rw [e]; exact h.hm
    · exact (own_block h.oa e).1
    · exact (own_block h.od e).1) (Nat.le_trans h.hb (Nat.le_of_lt h.lt.1))
end
/-- an edge in block e -/
def EdA (W : World) (e : Nat) (x : RW.Ed) : Prop := W.heap[e]? = some (.cells #[.int .i64 x.1, .int .i64 x.2] 38 (0, 0))
theorem EdA.c0 {W : World} {b : Nat} {x : RW.Ed} (h : EdA W b x) : W.cell? ⟨b, 0, none⟩ = some (.int .i64 x.1) := cellAt h 0
theorem EdA.c1 {W : World} {b : Nat} {x : RW.Ed} (h : EdA W b x) : W.cell? ⟨b, 0 + 1, none⟩ = some (.int .i64 x.2) := cellAt h 1
theorem EdA.lt {W : World} {b : Nat} {x : RW.Ed} (h : EdA W b x) : b < W.heap.size := (Array.getElem?_eq_some_iff.1 h).1
theorem EdA.chg {W W' : World} {b : Nat} {x : RW.Ed} {Q : Nat → Prop} (h : EdA W b x) (hC : ChgS Q W W') (hn : ¬ Q b) : EdA W' b x := (hC.block _ h.lt hn).trans h
theorem EdA.ne {W : World} {b B cb mb : Nat} {x : RW.Ed} {ra rd va vd : Value} {R : RW.Nd → RW.Nd} {A D : List Int} (h : EdA W b x) (hc : Cl0 W B cb mb ra rd va vd R A D) : b ≠ cb ∧ b ≠ mb ∧ va.ownBlock ≠ some b ∧ vd.ownBlock ≠ some b := by
  refine ⟨blocks_ne h hc.row (by decide), hc.fo.cells h, fun e => ?_, fun e => ?_⟩
  · obtain ⟨cur, h1⟩ := own_cells hc.oa e
    exact blocks_ne h1 h (by decide) rfl
  · obtain ⟨cur, h1⟩ := own_cells hc.od e
    exact blocks_ne h1 h (by decide) rfl
theorem cl_frozen {W : World} {cb i : Nat} {c : Array Value} {t : TypeId} (h : W.heap[cb]? = some (.cells c t (0, 0))) : W.frozen? ⟨cb, i, none⟩ = false := by simp [World.frozen?, h]
theorem op_store_slv {ev : Operand → Value} {o : Oper} {x y : Operand} {w : World} {b i : Nat} {v u : Value} (ho : o.op = .store 27 x y) (hx : ev x = .pointer (some ⟨b, i, none⟩)) (hy : ev y = v) (hv : ∃ p n c, v = .slice p n c) (hc : w.cell? ⟨b, i, none⟩ = some u) (hf : w.frozen? ⟨b, i, none⟩ = false) :
    (execOp ev o).run Try.prog w = .ok .skip (w.setCell ⟨b, i, none⟩ v) := by
  obtain ⟨p, n, c, rfl⟩ := hv
  exact op_store_sl ho hx hy hc hf
theorem mk_map (W : World) : (Instr.makeMap 45 none).run Try.prog W = .ok (.map (some W.heap.size)) (W.alloc (.map #[] 0)) := rfl
set_option maxRecDepth 10000 in
set_option maxHeartbeats 4000000 in
theorem of_any (v : Value) (l : List RW.Ed) (hl : l.length ≤ 1000) (w : World) (hv : RowV 2 RW.edl w v l) :
    Calls Try.prog 22 #[v] w fun e w' => ∃ cb mb va vd, e = .returned (.pointer (some ⟨cb, 0, none⟩)) ∧ Cl0 w' w.heap.size cb mb va vd va vd (RW.rOf l) (RW.asc (l.map (·.1))) (RW.asc (l.map (·.2))) ∧ Below w.heap.size w w' := by
  obtain ⟨av, cv, rfl, _, hav⟩ := hv
  obtain ⟨m, hm⟩ : ∃ m, m = l.length := ⟨_, rfl⟩
  have hmH := hide hm
  have havH := hide hav
  rw [← hm] at hl ⊢
  obtain ⟨B, hB⟩ : ∃ B, B = w.heap.size := ⟨_, rfl⟩
  have hBH := hide hB
  have hmk := mk_map
  have hlH := hide hl
  clear hm hav hB
  go_enter Try.func22, Try.ntmps22
  go_upto_region 2 with fail
  rw [← hBH.out]
  refine gen_w (fun W => Cl0 W B (B + 1) B (.slice none 0 0) (.slice none 0 0) (.slice none 0 0) (.slice none 0 0) id [] [] ∧ Below B w W) ?_ ?_
  · rw [hBH.out]
    exact ⟨⟨by rw [← alloc_size w (.map #[] 0)]; exact alloc_at1 _ _, ⟨[], _, (KM.OwnM.made w).keep (Below.heap_alloc _ _ _ (by simp)), RW.Fr.nil⟩, IntsO.nil _ _, IntsO.nil _ _, fun g hg => (by cases hg), Nat.le_succ _, Nat.le_refl _⟩, alloc_bel (alloc_bel (Below.refl _ _) (Nat.le_refl _) _) (Nat.le_refl _) _⟩
  obtain ⟨cb, hcb⟩ : ∃ c, c = B + 1 := ⟨_, rfl⟩
  rw [← hcb]
  clear hcb
  obtain ⟨mb, hmb⟩ : ∃ c, c = B := ⟨_, rfl⟩
  rintro w2 ⟨h1, h2⟩
  have h0 : Cl0 w2 B cb mb (.slice none 0 0) (.slice none 0 0) (.slice none 0 0) (.slice none 0 0) id [] [] := hmb ▸ h1
  have h0H := hide h0
  have h2H := hide h2
  clear h0 h1 h2 hmk hmb
  go_wp2
  go_loopw [12] (fun i wr => ∃ j : Nat, i = .int .i64 j ∧ j ≤ m ∧ Hid (∃ va vd, Cl0 wr B cb mb va vd va vd (RW.rOf (l.take j)) ((l.take j).map (·.1)) ((l.take j).map (·.2)) ∧ Below B w wr)) (fun i _ => m - (intOf i).toNat)
  case atStart => exact ⟨0, rfl, Nat.zero_le _, _, _, h0H.out, h2H.out⟩
  case round =>
    obtain ⟨j, rfl, hj, hQ⟩ := hrel
    clear h0H h2H
    obtain ⟨wo, hwo⟩ : ∃ wo, wo = wr := ⟨_, rfl⟩
    subst hwo
    obtain ⟨va, vd, hI0, hBw⟩ := hQ.out
    have hI := hide hI0
    have hBwH := hide hBw
    clear hQ hI0 hBw
    by_cases hjm : j < m
    · obtain ⟨⟨ac, dv⟩, hx⟩ : ∃ x, l[j]? = some x := ⟨_, List.getElem?_eq_getElem (by rw [← hmH.out]; exact hjm)⟩
      obtain ⟨bq, oq, rfl, hbq, hcq⟩ := havH.out.resolve_left (by rintro rfl; simp at hx)
      have hcell : ∀ i u, (RW.edl (ac, dv))[i]? = some u → wo.cell? ⟨bq, oq + j * 2 + i, none⟩ = some u := fun i u hu => (World.cell?_of_block (a := ⟨bq, oq + j * 2 + i, none⟩) (hBwH.out.block _ (by rw [hBH.out]; exact hbq))).trans (hcq j (ac, dv) hx i u hu)
      have e0 : wo.cell? ⟨bq, oq + j * 2, none⟩ = some (.int .i64 ac) := hcell 0 _ rfl
      have e1 : wo.cell? ⟨bq, oq + j * 2 + 1, none⟩ = some (.int .i64 dv) := hcell 1 _ rfl
      have htk : l.take (j + 1) = l.take j ++ [(ac, dv)] := by rw [List.take_add_one, hx]; rfl
      have hRn := hide (show RW.rOf (l.take (j + 1)) = RW.rJ (RW.rOf (l.take j)) (false, ac) (true, dv) by rw [htk, RW.rOf_snoc])
      have hAn := hide (show (l.take (j + 1)).map (·.1) = (l.take j).map (·.1) ++ [ac] by rw [htk, List.map_append]; rfl)
      have hDn := hide (show (l.take (j + 1)).map (·.2) = (l.take j).map (·.2) ++ [dv] by rw [htk, List.map_append]; rfl)
      have hAl := hide (show ((l.take j).map (·.1)).length ≤ 1000000 by rw [List.length_map, List.length_take]; have := hlH.out; omega)
      have hDl := hide (show ((l.take j).map (·.2)).length ≤ 1000000 by rw [List.length_map, List.length_take]; have := hlH.out; omega)
      obtain ⟨R, hR⟩ : ∃ R, R = RW.rOf (l.take j) := ⟨_, rfl⟩
      obtain ⟨A, hA⟩ : ∃ A, A = (l.take j).map (·.1) := ⟨_, rfl⟩
      obtain ⟨D, hD⟩ : ∃ D, D = (l.take j).map (·.2) := ⟨_, rfl⟩
      rw [← hR, ← hA, ← hD] at hI
      rw [← hR] at hRn
      rw [← hA] at hAn hAl
      rw [← hD] at hDn hDl
      clear hbq hcq hx hcell htk hR hA hD
      go_upto_region 5 with fail
      refine gen_w (fun W => EdA W wo.heap.size (ac, dv) ∧ Cl0 W B cb mb va vd va vd R A D ∧ Below B w W) ⟨alloc_at1 _ _, hI.out.next (alloc_bel (Below.refl _ _) (Nat.le_refl _) _), hBwH.out.alloc (Nat.le_trans hI.out.hb (Nat.le_of_lt hI.out.lt.1)) _⟩ ?_
      obtain ⟨eb, heb⟩ : ∃ e, e = wo.heap.size := ⟨_, rfl⟩
      rw [← heb]
      clear e0 e1 heb hI hBwH
      rintro w5 ⟨hE0, hI0, hB0⟩
      have hE := hide hE0
      have hI := hide hI0
      have hBw := hide hB0
      clear hE0 hI0 hB0
      refine wp_region_k (fun _ W => W.heap[cb]? = some (.cells #[.map (some mb), va, vd] 49 (0, 0)) ∧ EdA W eb (ac, dv)) (fun W => Cl0 W B cb mb va vd va vd R A D ∧ Below B w W) [10] (.op 0 (.op 1 (.op 2 (.op 3 (.op 4 (.op 5 (.op 6 (.op 7 (.op 8 (.op 9 (.op 10 .nil))))))))))) (by kernel_rfl) (by kernel_rfl) (by rfl) (by kernel_rfl) ⟨hI.out.row, hE.out⟩ ⟨hI.out.next (Below.refl _ _).drew, hBw.out.trans (Below.refl _ _).drew⟩ ?_
      refine k_val (.pointer (some ⟨cb, 0, none⟩)) (by apply opN; repeat' (first | apply OpAt.z | apply OpAt.s)) (by rfl) (by rfl) (fun _ W hS => op_mv rfl rfl) ?_
      simp only [Act.put, List.setIfInBounds_toArray, List.set_cons_zero, List.set_cons_succ]
      refine k_val (.pointer (some ⟨cb, 0, none⟩)) (by apply opN; repeat' (first | apply OpAt.z | apply OpAt.s)) (by rfl) (by rfl) (fun _ W hS => op_nc rfl rfl) ?_
      simp only [Act.put, List.setIfInBounds_toArray, List.set_cons_zero, List.set_cons_succ]
      refine k_val (.pointer (some ⟨cb, 0, none⟩)) (by apply opN; repeat' (first | apply OpAt.z | apply OpAt.s)) (by rfl) (by rfl) (fun _ W hS => op_fa_cl (by decide) rfl rfl) ?_
      simp only [Act.put, List.setIfInBounds_toArray, List.set_cons_zero, List.set_cons_succ]
      refine k_val (.agg #[.map (some mb)]) (by apply opN; repeat' (first | apply OpAt.z | apply OpAt.s)) (by rfl) (by rfl) (fun _ W hS => op_load_fo rfl rfl (cellAt hS.1 0)) ?_
      simp only [Act.put, List.setIfInBounds_toArray, List.set_cons_zero, List.set_cons_succ]
      refine k_val (.pointer (some ⟨eb, 0, none⟩)) (by apply opN; repeat' (first | apply OpAt.z | apply OpAt.s)) (by rfl) (by rfl) (fun _ W hS => op_fa_e0 rfl rfl) ?_
      simp only [Act.put, List.setIfInBounds_toArray, List.set_cons_zero, List.set_cons_succ]
      refine k_val (.int .i64 ac) (by apply opN; repeat' (first | apply OpAt.z | apply OpAt.s)) (by rfl) (by rfl) (fun _ W hS => op_load_int rfl rfl hS.2.c0) ?_
      simp only [Act.put, List.setIfInBounds_toArray, List.set_cons_zero, List.set_cons_succ]
      refine k_val (.agg #[.bool false, .int .i64 ac]) (by apply opN; repeat' (first | apply OpAt.z | apply OpAt.s)) (by rfl) (by rfl) (fun _ W hS => op_build_na rfl rfl) ?_
      simp only [Act.put, List.setIfInBounds_toArray, List.set_cons_zero, List.set_cons_succ]
      refine k_val (.pointer (some ⟨eb, 0 + 1, none⟩)) (by apply opN; repeat' (first | apply OpAt.z | apply OpAt.s)) (by rfl) (by rfl) (fun _ W hS => op_fa_e1 rfl rfl) ?_
      simp only [Act.put, List.setIfInBounds_toArray, List.set_cons_zero, List.set_cons_succ]
      refine k_val (.int .i64 dv) (by apply opN; repeat' (first | apply OpAt.z | apply OpAt.s)) (by rfl) (by rfl) (fun _ W hS => op_load_int rfl rfl hS.2.c1) ?_
      simp only [Act.put, List.setIfInBounds_toArray, List.set_cons_zero, List.set_cons_succ]
      refine k_val (.agg #[.bool true, .int .i64 dv]) (by apply opN; repeat' (first | apply OpAt.z | apply OpAt.s)) (by rfl) (by rfl) (fun _ W hS => op_build_nd rfl rfl rfl) ?_
      simp only [Act.put, List.setIfInBounds_toArray, List.set_cons_zero, List.set_cons_succ]
      refine k_step (fun K' u => K' = fun W => Cl0 W B cb mb va vd va vd (RW.rJ R (false, ac) (true, dv)) A D ∧ Below B w W) (by apply opN; repeat' (first | apply OpAt.z | apply OpAt.s)) (by rfl) (by rfl) (by rfl) (fun W hC hK => ?_) ?_
      · refine op_x3 rfl rfl rfl rfl rfl (fun _ _ => rfl) ((join_any hK.1.fo (false, ac) (true, dv)).mono ?_)
        rintro e W' ⟨⟨u, rfl⟩, h4, h5⟩
        have hN := hK.1.forest h4 h5
        exact ⟨_, rfl, ⟨hN.row, hC.2.chg h5 (hC.2.ne hK.1).2.1⟩, _, ⟨hN, hK.2.trans (hK.1.bel h5 fun j e => .inr (.inl e))⟩, rfl⟩
      rintro _ _ rfl
      simp only [Act.put, List.setIfInBounds_toArray, List.set_cons_zero, List.set_cons_succ]
      refine k_nil ?_
      intro W5 hC hK
      have hE6 := hide hC.2
      have hI6 := hide hK.1
      have hB6 := hide hK.2
      clear hC hK hE hI hBw
      obtain ⟨R2, hR2⟩ : ∃ R2, R2 = RW.rJ R (false, ac) (true, dv) := ⟨_, rfl⟩
      rw [← hR2] at hI6 hRn
      clear hR2
      go_upto_region 6 with fail
      obtain ⟨av1, cav1, heav1⟩ := hI6.out.oa.form
      have heav1H := hide heav1
      clear heav1
      refine wp_region_k (fun g W => EdA W eb (ac, dv) ∧ (11 ∉ g → W.heap[cb]? = some (.cells #[.map (some mb), va, vd] 49 (0, 0)))) (fun W => Cl0 W B cb mb va vd va vd R2 A D ∧ Below B w W) [7, 8, 11] (.op 0 (.op 1 (.op 2 (.op 3 (.op 4 (.op 5 (.op 6 (.op 7 (.op 8 (.op 9 (.op 10 (.op 11 .nil)))))))))))) (by kernel_rfl) (by kernel_rfl) (by rfl) (by kernel_rfl) ⟨hE6.out, fun _ => hI6.out.row⟩ ⟨hI6.out.next (Below.refl _ _).drew, hB6.out.trans (Below.refl _ _).drew⟩ ?_
      refine k_val (.pointer (some ⟨cb, 0, none⟩)) (by apply opN; repeat' (first | apply OpAt.z | apply OpAt.s)) (by rfl) (by rfl) (fun _ W hS => op_mv rfl rfl) ?_
      simp only [Act.put, List.setIfInBounds_toArray, List.set_cons_zero, List.set_cons_succ]
      refine k_val (.pointer (some ⟨cb, 0, none⟩)) (by apply opN; repeat' (first | apply OpAt.z | apply OpAt.s)) (by rfl) (by rfl) (fun _ W hS => op_mv rfl rfl) ?_
      simp only [Act.put, List.setIfInBounds_toArray, List.set_cons_zero, List.set_cons_succ]
      refine k_val (.pointer (some ⟨cb, 0, none⟩)) (by apply opN; repeat' (first | apply OpAt.z | apply OpAt.s)) (by rfl) (by rfl) (fun _ W hS => op_nc rfl rfl) ?_
      simp only [Act.put, List.setIfInBounds_toArray, List.set_cons_zero, List.set_cons_succ]
      refine k_val (.pointer (some ⟨cb, 1, none⟩)) (by apply opN; repeat' (first | apply OpAt.z | apply OpAt.s)) (by rfl) (by rfl) (fun _ W hS => op_fa_cl (by decide) rfl rfl) ?_
      simp only [Act.put, List.setIfInBounds_toArray, List.set_cons_zero, List.set_cons_succ]
      refine k_bef 11 (.slice av1 A.length cav1) (by apply opN; repeat' (first | apply OpAt.z | apply OpAt.s)) (by rfl) (by rfl) (by decide +kernel) (by rfl) (fun _ W hg hS => op_load_sl rfl rfl ((cellAt (hS.2 hg) 1).trans (congrArg some heav1H.out))) ?_
      simp only [Act.put, List.setIfInBounds_toArray, List.set_cons_zero, List.set_cons_succ]
      refine k_val (.pointer (some ⟨eb, 0, none⟩)) (by apply opN; repeat' (first | apply OpAt.z | apply OpAt.s)) (by rfl) (by rfl) (fun _ W hS => op_fa_e0 rfl rfl) ?_
      simp only [Act.put, List.setIfInBounds_toArray, List.set_cons_zero, List.set_cons_succ]
      refine k_val (.int .i64 ac) (by apply opN; repeat' (first | apply OpAt.z | apply OpAt.s)) (by rfl) (by rfl) (fun _ W hS => op_load_int rfl rfl hS.1.c0) ?_
      simp only [Act.put, List.setIfInBounds_toArray, List.set_cons_zero, List.set_cons_succ]
      refine k_step (fun K' u => ∃ g, u = .slice (some ⟨g, 0, none⟩) 1 1 ∧ K' = fun W => (Cl0 W B cb mb va vd va vd R2 A D ∧ Below B w W) ∧ W.heap[g]? = some (.cells #[.int .i64 ac] 3 (0, 0))) (by apply opN; repeat' (first | apply OpAt.z | apply OpAt.s)) (by rfl) (by rfl) (by rfl) (fun W hC hK => ?_) ?_
      · have hA7 := alloc_bel (Below.refl W.heap.size W) (Nat.le_refl _) (.cells #[.int .i64 ac] 3)
        exact xup_val (op_bs_i rfl rfl) ⟨⟨hC.1.chg (Q := fun _ => False) (ChgS.of_below hA7) id, fun _ => (hA7.block _ hK.1.lt.1).trans (hC.2 (by decide))⟩, _, ⟨⟨hK.1.next hA7, hK.2.trans (hA7.mono (Nat.le_trans hK.1.hb (Nat.le_of_lt hK.1.lt.1)))⟩, alloc_at1 _ _⟩, _, rfl, rfl⟩
      rintro _ _ ⟨g7, rfl, rfl⟩
      simp only [Act.put, List.setIfInBounds_toArray, List.set_cons_zero, List.set_cons_succ]
      refine k_step (fun K' u => ∃ a8 n8 c8, u = .slice a8 n8 c8 ∧ K' = fun W => Cl0 W B cb mb va vd (.slice a8 n8 c8) vd R2 (A ++ [ac]) D ∧ Below B w W) (by apply opN; repeat' (first | apply OpAt.z | apply OpAt.s)) (by rfl) (by rfl) (by rfl) (fun W hC hK => ?_) ?_
      · obtain ⟨⟨hK1, hK2⟩, hg⟩ := hK
        obtain ⟨v8, W8, hrun, hO8, hC8, hv8⟩ := hK1.oa.app1 ac hAl.out (Nat.le_trans hK1.hb (Nat.le_of_lt hK1.lt.1)) hg
        obtain ⟨a8, c8, rfl⟩ := hO8.form
        have hM := hK1.accs hO8 hC8 hv8
        rw [heav1H.out] at hrun
        exact xup_val (op_app rfl rfl rfl hrun) ⟨⟨hC.1.chg hC8 (hC.1.ne hK1).2.2.1, fun _ => hM.row⟩, _, ⟨hM, hK2.trans (hK1.bel hC8 fun j e => .inr (.inr (.inl e)))⟩, _, _, _, rfl, rfl⟩
      rintro _ _ ⟨a8, n8, c8, rfl, rfl⟩
      simp only [Act.put, List.setIfInBounds_toArray, List.set_cons_zero, List.set_cons_succ]
      refine k_val (.pointer (some ⟨cb, 0, none⟩)) (by apply opN; repeat' (first | apply OpAt.z | apply OpAt.s)) (by rfl) (by rfl) (fun _ W hS => op_nc rfl rfl) ?_
      simp only [Act.put, List.setIfInBounds_toArray, List.set_cons_zero, List.set_cons_succ]
      refine k_val (.pointer (some ⟨cb, 1, none⟩)) (by apply opN; repeat' (first | apply OpAt.z | apply OpAt.s)) (by rfl) (by rfl) (fun _ W hS => op_fa_cl (by decide) rfl rfl) ?_
      simp only [Act.put, List.setIfInBounds_toArray, List.set_cons_zero, List.set_cons_succ]
      refine k_step (fun K' u => K' = fun W => Cl0 W B cb mb (.slice a8 n8 c8) vd (.slice a8 n8 c8) vd R2 (A ++ [ac]) D ∧ Below B w W) (by apply opN; repeat' (first | apply OpAt.z | apply OpAt.s)) (by rfl) (by rfl) (by rfl) (fun W hC hK => ?_) ?_
      · have hM := hK.1.setc 1 (.slice a8 n8 c8) (.slice a8 n8 c8) vd rfl
        exact xup_skip (op_store_sl rfl rfl rfl (cellAt hK.1.row 1) (cl_frozen hK.1.row)) ⟨⟨(set_else _ _ (hC.1.ne hK.1).1).trans hC.1, fun h => absurd (by decide) h⟩, _, ⟨hM, hK.2.trans (hK.1.bel ((ChgS.refl (fun j => j = cb) W).set rfl _) fun j e => .inl e)⟩, rfl⟩
      rintro _ _ rfl
      simp only [Act.put]
      refine k_nil ?_
      intro W7 hC hK
      have hE7 := hide hC.1
      have hI7 := hide hK.1
      have hB7 := hide hK.2
      clear hC hK hE6 hI6 hB6 heav1H
      obtain ⟨va8, hva8⟩ : ∃ v, v = Value.slice a8 n8 c8 := ⟨_, rfl⟩
      rw [← hva8] at hI7
      clear hva8
      go_upto_region 7 with fail
      obtain ⟨av2, cav2, heav2⟩ := hI7.out.od.form
      have heav2H := hide heav2
      clear heav2
      refine wp_region_k (fun g W => EdA W eb (ac, dv) ∧ (11 ∉ g → W.heap[cb]? = some (.cells #[.map (some mb), va8, vd] 49 (0, 0)))) (fun W => Cl0 W B cb mb va8 vd va8 vd R2 (A ++ [ac]) D ∧ Below B w W) [7, 8, 11] (.op 0 (.op 1 (.op 2 (.op 3 (.op 4 (.op 5 (.op 6 (.op 7 (.op 8 (.op 9 (.op 10 (.op 11 .nil)))))))))))) (by kernel_rfl) (by kernel_rfl) (by rfl) (by kernel_rfl) ⟨hE7.out, fun _ => hI7.out.row⟩ ⟨hI7.out.next (Below.refl _ _).drew, hB7.out.trans (Below.refl _ _).drew⟩ ?_
      refine k_val (.pointer (some ⟨cb, 0, none⟩)) (by apply opN; repeat' (first | apply OpAt.z | apply OpAt.s)) (by rfl) (by rfl) (fun _ W hS => op_mv rfl rfl) ?_
      simp only [Act.put, List.setIfInBounds_toArray, List.set_cons_zero, List.set_cons_succ]
      refine k_val (.pointer (some ⟨cb, 0, none⟩)) (by apply opN; repeat' (first | apply OpAt.z | apply OpAt.s)) (by rfl) (by rfl) (fun _ W hS => op_mv rfl rfl) ?_
      simp only [Act.put, List.setIfInBounds_toArray, List.set_cons_zero, List.set_cons_succ]
      refine k_val (.pointer (some ⟨cb, 0, none⟩)) (by apply opN; repeat' (first | apply OpAt.z | apply OpAt.s)) (by rfl) (by rfl) (fun _ W hS => op_nc rfl rfl) ?_
      simp only [Act.put, List.setIfInBounds_toArray, List.set_cons_zero, List.set_cons_succ]
      refine k_val (.pointer (some ⟨cb, 2, none⟩)) (by apply opN; repeat' (first | apply OpAt.z | apply OpAt.s)) (by rfl) (by rfl) (fun _ W hS => op_fa_cl (by decide) rfl rfl) ?_
      simp only [Act.put, List.setIfInBounds_toArray, List.set_cons_zero, List.set_cons_succ]
      refine k_bef 11 (.slice av2 D.length cav2) (by apply opN; repeat' (first | apply OpAt.z | apply OpAt.s)) (by rfl) (by rfl) (by decide +kernel) (by rfl) (fun _ W hg hS => op_load_sl rfl rfl ((cellAt (hS.2 hg) 2).trans (congrArg some heav2H.out))) ?_
      simp only [Act.put, List.setIfInBounds_toArray, List.set_cons_zero, List.set_cons_succ]
      refine k_val (.pointer (some ⟨eb, 0 + 1, none⟩)) (by apply opN; repeat' (first | apply OpAt.z | apply OpAt.s)) (by rfl) (by rfl) (fun _ W hS => op_fa_e1 rfl rfl) ?_
      simp only [Act.put, List.setIfInBounds_toArray, List.set_cons_zero, List.set_cons_succ]
      refine k_val (.int .i64 dv) (by apply opN; repeat' (first | apply OpAt.z | apply OpAt.s)) (by rfl) (by rfl) (fun _ W hS => op_load_int rfl rfl hS.1.c1) ?_
      simp only [Act.put, List.setIfInBounds_toArray, List.set_cons_zero, List.set_cons_succ]
      refine k_step (fun K' u => ∃ g, u = .slice (some ⟨g, 0, none⟩) 1 1 ∧ K' = fun W => (Cl0 W B cb mb va8 vd va8 vd R2 (A ++ [ac]) D ∧ Below B w W) ∧ W.heap[g]? = some (.cells #[.int .i64 dv] 3 (0, 0))) (by apply opN; repeat' (first | apply OpAt.z | apply OpAt.s)) (by rfl) (by rfl) (by rfl) (fun W hC hK => ?_) ?_
      · have hA7 := alloc_bel (Below.refl W.heap.size W) (Nat.le_refl _) (.cells #[.int .i64 dv] 3)
        exact xup_val (op_bs_i rfl rfl) ⟨⟨hC.1.chg (Q := fun _ => False) (ChgS.of_below hA7) id, fun _ => (hA7.block _ hK.1.lt.1).trans (hC.2 (by decide))⟩, _, ⟨⟨hK.1.next hA7, hK.2.trans (hA7.mono (Nat.le_trans hK.1.hb (Nat.le_of_lt hK.1.lt.1)))⟩, alloc_at1 _ _⟩, _, rfl, rfl⟩
      rintro _ _ ⟨g7, rfl, rfl⟩
      simp only [Act.put, List.setIfInBounds_toArray, List.set_cons_zero, List.set_cons_succ]
      refine k_step (fun K' u => ∃ a9 n9 c9, u = .slice a9 n9 c9 ∧ K' = fun W => Cl0 W B cb mb va8 vd va8 (.slice a9 n9 c9) R2 (A ++ [ac]) (D ++ [dv]) ∧ Below B w W) (by apply opN; repeat' (first | apply OpAt.z | apply OpAt.s)) (by rfl) (by rfl) (by rfl) (fun W hC hK => ?_) ?_
      · obtain ⟨⟨hK1, hK2⟩, hg⟩ := hK
        obtain ⟨v8, W8, hrun, hO8, hC8, hv8⟩ := hK1.od.app1 dv hDl.out (Nat.le_trans hK1.hb (Nat.le_of_lt hK1.lt.1)) hg
        obtain ⟨a8, c8, rfl⟩ := hO8.form
        have hM := hK1.devs hO8 hC8 hv8
        rw [heav2H.out] at hrun
        exact xup_val (op_app rfl rfl rfl hrun) ⟨⟨hC.1.chg hC8 (hC.1.ne hK1).2.2.2, fun _ => hM.row⟩, _, ⟨hM, hK2.trans (hK1.bel hC8 fun j e => .inr (.inr (.inr e)))⟩, _, _, _, rfl, rfl⟩
      rintro _ _ ⟨a9, n9, c9, rfl, rfl⟩
      simp only [Act.put, List.setIfInBounds_toArray, List.set_cons_zero, List.set_cons_succ]
      refine k_val (.pointer (some ⟨cb, 0, none⟩)) (by apply opN; repeat' (first | apply OpAt.z | apply OpAt.s)) (by rfl) (by rfl) (fun _ W hS => op_nc rfl rfl) ?_
      simp only [Act.put, List.setIfInBounds_toArray, List.set_cons_zero, List.set_cons_succ]
      refine k_val (.pointer (some ⟨cb, 2, none⟩)) (by apply opN; repeat' (first | apply OpAt.z | apply OpAt.s)) (by rfl) (by rfl) (fun _ W hS => op_fa_cl (by decide) rfl rfl) ?_
      simp only [Act.put, List.setIfInBounds_toArray, List.set_cons_zero, List.set_cons_succ]
      refine k_step (fun K' u => K' = fun W => Cl0 W B cb mb va8 (.slice a9 n9 c9) va8 (.slice a9 n9 c9) R2 (A ++ [ac]) (D ++ [dv]) ∧ Below B w W) (by apply opN; repeat' (first | apply OpAt.z | apply OpAt.s)) (by rfl) (by rfl) (by rfl) (fun W hC hK => ?_) ?_
      · have hM := hK.1.setc 2 (.slice a9 n9 c9) va8 (.slice a9 n9 c9) rfl
        exact xup_skip (op_store_sl rfl rfl rfl (cellAt hK.1.row 2) (cl_frozen hK.1.row)) ⟨⟨(set_else _ _ (hC.1.ne hK.1).1).trans hC.1, fun h => absurd (by decide) h⟩, _, ⟨hM, hK.2.trans (hK.1.bel ((ChgS.refl (fun j => j = cb) W).set rfl _) fun j e => .inl e)⟩, rfl⟩
      rintro _ _ rfl
      simp only [Act.put]
      refine k_nil ?_
      intro W8 hC hK
      have hE8 := hide hC.1
      have hI8 := hide hK.1
      have hB8 := hide hK.2
      clear hC hK hE7 hI7 hB7 heav2H
      go_wp2
      go_roundw
      case rel => exact ⟨j + 1, by go_num, by omega, _, _, by rw [hRn.out, hAn.out, hDn.out]; exact hI8.out, hB8.out⟩
      case measure => simp [intOf]; omega
    · obtain rfl : j = m := by omega
      have htl : l.take j = l := List.take_of_length_le (by rw [← hmH.out]; exact Nat.le_refl _)
      rw [htl] at hI
      have hAl := hide (show (l.map (·.1)).length ≤ 1000000 by rw [List.length_map, ← hmH.out]; have := hlH.out; omega)
      have hDl := hide (show (l.map (·.2)).length ≤ 1000000 by rw [List.length_map, ← hmH.out]; have := hlH.out; omega)
      obtain ⟨R, hR⟩ : ∃ R, R = RW.rOf l := ⟨_, rfl⟩
      obtain ⟨A, hA⟩ : ∃ A, A = l.map (·.1) := ⟨_, rfl⟩
      obtain ⟨D, hD⟩ : ∃ D, D = l.map (·.2) := ⟨_, rfl⟩
      rw [← hR, ← hA, ← hD] at hI
      rw [← hA] at hAl
      rw [← hD] at hDl
      have hRl := hide hR
      have hAll := hide hA
      have hDll := hide hD
      clear hR hA hD htl
      obtain ⟨aa, ca, hea⟩ := hI.out.oa.form
      obtain ⟨ad, cd, hed⟩ := hI.out.od.form
      have heaH := hide hea
      have hedH := hide hed
      clear hea hed
      go_upto_region 9 with fail
      refine wp_region_k (fun g W => (14 ∉ g → W.heap[cb]? = some (.cells #[.map (some mb), va, vd] 49 (0, 0)))) (fun W => Cl0 W B cb mb va vd va vd R A D ∧ Below B w W) [6, 11, 14, 17] (.op 0 (.op 1 (.op 2 (.op 3 (.op 4 (.op 5 (.op 7 (.op 8 (.op 9 (.op 10 (.op 6 (.op 11 (.op 12 (.op 13 (.op 14 (.op 15 (.op 16 (.op 17 .nil)))))))))))))))))) (by kernel_rfl) (by kernel_rfl) (by rfl) (by kernel_rfl) (fun _ => hI.out.row) ⟨hI.out.next (Below.refl _ _).drew, hBwH.out.trans (Below.refl _ _).drew⟩ ?_
      refine k_val (.pointer (some ⟨cb, 0, none⟩)) (by apply opN; repeat' (first | apply OpAt.z | apply OpAt.s)) (by rfl) (by rfl) (fun _ W hS => op_mv rfl rfl) ?_
      simp only [Act.put, List.setIfInBounds_toArray, List.set_cons_zero, List.set_cons_succ]
      refine k_val (.pointer (some ⟨cb, 0, none⟩)) (by apply opN; repeat' (first | apply OpAt.z | apply OpAt.s)) (by rfl) (by rfl) (fun _ W hS => op_mv rfl rfl) ?_
      simp only [Act.put, List.setIfInBounds_toArray, List.set_cons_zero, List.set_cons_succ]
      refine k_val (.pointer (some ⟨cb, 0, none⟩)) (by apply opN; repeat' (first | apply OpAt.z | apply OpAt.s)) (by rfl) (by rfl) (fun _ W hS => op_mv rfl rfl) ?_
      simp only [Act.put, List.setIfInBounds_toArray, List.set_cons_zero, List.set_cons_succ]
      refine k_val (.pointer (some ⟨cb, 0, none⟩)) (by apply opN; repeat' (first | apply OpAt.z | apply OpAt.s)) (by rfl) (by rfl) (fun _ W hS => op_nc rfl rfl) ?_
      simp only [Act.put, List.setIfInBounds_toArray, List.set_cons_zero, List.set_cons_succ]
      refine k_val (.pointer (some ⟨cb, 1, none⟩)) (by apply opN; repeat' (first | apply OpAt.z | apply OpAt.s)) (by rfl) (by rfl) (fun _ W hS => op_fa_cl (by decide) rfl rfl) ?_
      simp only [Act.put, List.setIfInBounds_toArray, List.set_cons_zero, List.set_cons_succ]
      refine k_bef 14 (.slice aa A.length ca) (by apply opN; repeat' (first | apply OpAt.z | apply OpAt.s)) (by rfl) (by rfl) (by decide +kernel) (by rfl) (fun _ W hg hS => op_load_sl rfl rfl ((cellAt (hS hg) 1).trans (congrArg some heaH.out))) ?_
      simp only [Act.put, List.setIfInBounds_toArray, List.set_cons_zero, List.set_cons_succ]
      refine k_val (.pointer (some ⟨cb, 0, none⟩)) (by apply opN; repeat' (first | apply OpAt.z | apply OpAt.s)) (by rfl) (by rfl) (fun _ W hS => op_mv rfl rfl) ?_
      simp only [Act.put, List.setIfInBounds_toArray, List.set_cons_zero, List.set_cons_succ]
      refine k_val (.pointer (some ⟨cb, 0, none⟩)) (by apply opN; repeat' (first | apply OpAt.z | apply OpAt.s)) (by rfl) (by rfl) (fun _ W hS => op_nc rfl rfl) ?_
      simp only [Act.put, List.setIfInBounds_toArray, List.set_cons_zero, List.set_cons_succ]
      refine k_val (.pointer (some ⟨cb, 2, none⟩)) (by apply opN; repeat' (first | apply OpAt.z | apply OpAt.s)) (by rfl) (by rfl) (fun _ W hS => op_fa_cl (by decide) rfl rfl) ?_
      simp only [Act.put, List.setIfInBounds_toArray, List.set_cons_zero, List.set_cons_succ]
      refine k_bef 14 (.slice ad D.length cd) (by apply opN; repeat' (first | apply OpAt.z | apply OpAt.s)) (by rfl) (by rfl) (by decide +kernel) (by rfl) (fun _ W hg hS => op_load_sl rfl rfl ((cellAt (hS hg) 2).trans (congrArg some hedH.out))) ?_
      simp only [Act.put, List.setIfInBounds_toArray, List.set_cons_zero, List.set_cons_succ]
      refine k_step (fun K' u => ∃ v1, u = v1 ∧ K' = fun W => Cl0 W B cb mb va vd v1 vd R (RW.asc A) D ∧ Below B w W) (by apply opN; repeat' (first | apply OpAt.z | apply OpAt.s)) (by rfl) (by rfl) (by rfl) (fun W hC hK => ?_) ?_
      · have hU := unique_own hK.1.oa hAl.out
        rw [heaH.out] at hU
        refine op_x1 rfl rfl rfl (fun _ _ => rfl) (hU.mono ?_)
        rw [← heaH.out]
        rintro e W' ⟨v1, rfl, h4, h5, h6⟩
        have hM := hK.1.accs h4 h6 (.inl h5)
        exact ⟨_, rfl, fun _ => hM.row, _, ⟨hM, hK.2.trans (hK.1.bel h6 fun j e => .inr (.inr (.inl e)))⟩, v1, rfl, rfl⟩
      rintro _ v1 ⟨_, rfl, rfl⟩
      simp only [Act.put, List.setIfInBounds_toArray, List.set_cons_zero, List.set_cons_succ]
      refine k_step (fun K' u => ∃ v2, u = v2 ∧ K' = fun W => Cl0 W B cb mb va vd v1 v2 R (RW.asc A) (RW.asc D) ∧ Below B w W) (by apply opN; repeat' (first | apply OpAt.z | apply OpAt.s)) (by rfl) (by rfl) (by rfl) (fun W hC hK => ?_) ?_
      · have hU := unique_own hK.1.od hDl.out
        rw [hedH.out] at hU
        refine op_x1 rfl rfl rfl (fun _ _ => rfl) (hU.mono ?_)
        rw [← hedH.out]
        rintro e W' ⟨v2, rfl, h4, h5, h6⟩
        have hM := hK.1.devs h4 h6 (.inl h5)
        exact ⟨_, rfl, fun _ => hM.row, _, ⟨hM, hK.2.trans (hK.1.bel h6 fun j e => .inr (.inr (.inr e)))⟩, v2, rfl, rfl⟩
      rintro _ v2 ⟨_, rfl, rfl⟩
      simp only [Act.put, List.setIfInBounds_toArray, List.set_cons_zero, List.set_cons_succ]
      refine k_val (.pointer (some ⟨cb, 0, none⟩)) (by apply opN; repeat' (first | apply OpAt.z | apply OpAt.s)) (by rfl) (by rfl) (fun _ W hS => op_nc rfl rfl) ?_
      simp only [Act.put, List.setIfInBounds_toArray, List.set_cons_zero, List.set_cons_succ]
      refine k_val (.pointer (some ⟨cb, 1, none⟩)) (by apply opN; repeat' (first | apply OpAt.z | apply OpAt.s)) (by rfl) (by rfl) (fun _ W hS => op_fa_cl (by decide) rfl rfl) ?_
      simp only [Act.put, List.setIfInBounds_toArray, List.set_cons_zero, List.set_cons_succ]
      refine k_step (fun K' u => K' = fun W => Cl0 W B cb mb v1 vd v1 v2 R (RW.asc A) (RW.asc D) ∧ Below B w W) (by apply opN; repeat' (first | apply OpAt.z | apply OpAt.s)) (by rfl) (by rfl) (by rfl) (fun W hC hK => ?_) ?_
      · obtain ⟨a1, c1, he1⟩ := hK.1.oa.form
        have hM := hK.1.setc 1 v1 v1 vd rfl
        refine xup_skip (op_store_slv rfl rfl rfl ⟨_, _, _, he1⟩ (cellAt hK.1.row 1) (cl_frozen hK.1.row)) ⟨fun h => absurd (by decide) h, _, ⟨hM, hK.2.trans (hK.1.bel ((ChgS.refl (fun j => j = cb) W).set rfl _) fun j e => .inl e)⟩, rfl⟩
      rintro _ _ rfl
      simp only [Act.put]
      refine k_val (.pointer (some ⟨cb, 0, none⟩)) (by apply opN; repeat' (first | apply OpAt.z | apply OpAt.s)) (by rfl) (by rfl) (fun _ W hS => op_nc rfl rfl) ?_
      simp only [Act.put, List.setIfInBounds_toArray, List.set_cons_zero, List.set_cons_succ]
      refine k_val (.pointer (some ⟨cb, 2, none⟩)) (by apply opN; repeat' (first | apply OpAt.z | apply OpAt.s)) (by rfl) (by rfl) (fun _ W hS => op_fa_cl (by decide) rfl rfl) ?_
      simp only [Act.put, List.setIfInBounds_toArray, List.set_cons_zero, List.set_cons_succ]
      refine k_step (fun K' u => K' = fun W => Cl0 W B cb mb v1 v2 v1 v2 R (RW.asc A) (RW.asc D) ∧ Below B w W) (by apply opN; repeat' (first | apply OpAt.z | apply OpAt.s)) (by rfl) (by rfl) (by rfl) (fun W hC hK => ?_) ?_
      · obtain ⟨a1, c1, he1⟩ := hK.1.od.form
        have hM := hK.1.setc 2 v2 v1 v2 rfl
        refine xup_skip (op_store_slv rfl rfl rfl ⟨_, _, _, he1⟩ (cellAt hK.1.row 2) (cl_frozen hK.1.row)) ⟨fun h => absurd (by decide) h, _, ⟨hM, hK.2.trans (hK.1.bel ((ChgS.refl (fun j => j = cb) W).set rfl _) fun j e => .inl e)⟩, rfl⟩
      rintro _ _ rfl
      simp only [Act.put]
      refine k_nil ?_
      intro W9 hC hK
      have hI9 := hide hK.1
      have hB9 := hide hK.2
      clear hC hK hI hBwH heaH hedH
      go_wp2
      go_ret
      refine ⟨cb, mb, v1, v2, rfl, ?_, ?_⟩
      · rw [← hBH.out, ← hRl.out, ← hAll.out, ← hDll.out]; exact hI9.out
      · rw [← hBH.out]; exact hB9.out
end Go.Proofs.Ytbmlfejlmedmgaa

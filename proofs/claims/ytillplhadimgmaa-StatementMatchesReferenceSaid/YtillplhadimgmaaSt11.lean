/-
  Lists of statements in memory; the reference's SameList: what it returns; only new memory is written.
-/
import Derived.Test.YtillplhadimgmaaSt4
import Derived.Test.YtillplhadimgmaaStA
import Derived.Test.YtillplhadimgmaaOps
namespace Go.Proofs.Ytillplhadimgmaa
open Go.RowKit RG
/-- a statement as it lies: holder, closing, the slice of its lines -/
abbrev SV := Int × Int × Value
def stc (u : SV) : List Value := [.int .i64 u.1, .int .i64 u.2.1, u.2.2]
theorem stc_len (u : SV) : (stc u).length = 3 := rfl
theorem st_size (u : SV) : (Try.prog.info? 39).map (·.size) = some (stc u).length := by kernel_rfl
theorem st_info : (Try.prog.info? 39).map (fun i => (i.zero, i.size, i.bytes)) = some (some (.agg #[.int .i64 0, .int .i64 0, .slice none 0 0]), 3, 40) := by kernel_rfl
/-- a slice of statements -/
def StsV (W : World) (v : Value) (ss : List RW.St) : Prop := ∃ vs : List SV, RowV 3 stc W v vs ∧ vs.length = ss.length ∧ ∀ (i : Nat) (u : SV) (s : RW.St), vs[i]? = some u → ss[i]? = some s → u.1 = s.1 ∧ u.2.1 = s.2.1 ∧ LnsV W u.2.2 s.2.2
theorem StsV.next {W W' : World} {v : Value} {ss : List RW.St} (h : StsV W v ss) (hB : Below W.heap.size W W') : StsV W' v ss := by
  obtain ⟨vs, h1, h2, h3⟩ := h
  exact ⟨vs, h1.next hB, h2, fun i u s hu hs => ⟨(h3 i u s hu hs).1, (h3 i u s hu hs).2.1, (h3 i u s hu hs).2.2.next hB⟩⟩
theorem LnsV.form {W : World} {v : Value} {l : List RW.Ln} (h : LnsV W v l) : ∃ a c, v = .slice a l.length c := by
  obtain ⟨a, c, e, _, _⟩ := h
  exact ⟨a, c, e⟩
/-- the lines of a call's own -/
abbrev LnsO (W : World) (B : Nat) (v : Value) (l : List RW.Ln) : Prop := W.ownsRow B 61 3 v l.length (rowCells RW.lnl l)
theorem LnsO.row {W : World} {B : Nat} {v : Value} {l : List RW.Ln} (h : LnsO W B v l) : LnsV W v l := rowV_own (B := B) (e := 61) (n := l.length) ln_len (by decide) h
theorem LnsO.next {W W' : World} {B : Nat} {v : Value} {l : List RW.Ln} (h : LnsO W B v l) (hB : Below W.heap.size W W') : LnsO W' B v l := own_keep h fun g hg => hB.block _ (own_block h hg).2.1
theorem LnsO.nil (W : World) (B : Nat) : LnsO W B (.slice none 0 0) [] := ⟨rfl, .inl ⟨rfl, rfl⟩⟩
theorem ln_one' (x : RW.Ln) : ∀ u ∈ RW.lnl x, u.oneCell' = true := by
  intro u hu
  simp [RW.lnl] at hu
  rcases hu with rfl | rfl | rfl <;> rfl
theorem LnsO.app {W : World} {B : Nat} {v y : Value} {l m : List RW.Ln} (h : LnsO W B v l) (hl : l.length + m.length ≤ 1000000) (hB : B ≤ W.heap.size) (hy : LnsV W y m) :
    ∃ v' W', (Builtin.append_ #[37, 37] 37 #[v, y]).run Try.prog W = .ok v' W' ∧ LnsO W' B v' (l ++ m) ∧ W.grownBy W' v.ownBlock ∧ (v'.ownBlock = v.ownBlock ∨ v'.ownBlock = some W.heap.size) := by
  obtain ⟨v', W', h1, h2, _, h4, h5⟩ := run_app_at (P := Try.prog) 37 Try.underlying37 info_ln (by rfl) (by decide) ln_len ln_one' h hB hy (by unfold maxLen; omega) (by omega)
  exact ⟨v', W', h1, h2, h4, h5⟩
/-- the statements of a call's own -/
structure StsO (W : World) (B : Nat) (vo : Value) (vs : List SV) (ss : List RW.St) : Prop where
  row : W.ownsRow B 39 3 vo vs.length (rowCells stc vs)
  len : vs.length = ss.length
  el : ∀ (i : Nat) (u : SV) (s : RW.St), vs[i]? = some u → ss[i]? = some s → u.1 = s.1 ∧ u.2.1 = s.2.1 ∧ LnsO W B u.2.2 s.2.2
theorem lnl_block {W : World} {B : Nat} {v : Value} {l : List RW.Ln} (h : LnsO W B v l) : ∃ a c, v = .slice a l.length c := by
  rcases h.2 with ⟨rfl, h0⟩ | ⟨g, cap, cur, rfl, _⟩
  · exact ⟨none, 0, by rw [h0]⟩
  · exact ⟨_, _, rfl⟩
section
variable {W W' : World} {B : Nat} {vo : Value} {vs : List SV} {ss : List RW.St}
theorem StsO.next (h : StsO W B vo vs ss) (hB : Below W.heap.size W W') : StsO W' B vo vs ss :=
  ⟨own_keep h.row fun g hg => hB.block _ (own_block h.row hg).2.1, h.len, fun i u s hu hs => ⟨(h.el i u s hu hs).1, (h.el i u s hu hs).2.1, (h.el i u s hu hs).2.2.next hB⟩⟩
theorem StsO.nil (W : World) (B : Nat) : StsO W B (.slice none 0 0) [] [] := ⟨⟨rfl, .inl ⟨rfl, rfl⟩⟩, rfl, fun i u s hu _ => by simp at hu⟩
theorem StsO.sts (h : StsO W B vo vs ss) : StsV W vo ss := ⟨vs, rowV_own (B := B) (e := 39) (n := vs.length) stc_len (by decide) h.row, h.len, fun i u s hu hs => ⟨(h.el i u s hu hs).1, (h.el i u s hu hs).2.1, (h.el i u s hu hs).2.2.row⟩⟩
theorem StsO.form (h : StsO W B vo vs ss) : ∃ a c, vo = .slice a vs.length c := by
  rcases h.row.2 with ⟨rfl, h0⟩ | ⟨g, cap, cur, rfl, _⟩
  · exact ⟨none, 0, by rw [h0]⟩
  · exact ⟨_, _, rfl⟩
/-- a statement appended that lies alone in a new block -/
theorem StsO.app (h : StsO W B vo vs ss) {n c : Int} {v : Value} {l : List RW.Ln} (hv : LnsO W B v l) (hl : vs.length ≤ 100000) (hB : B ≤ W.heap.size) :
    ∃ v' W', (Builtin.append_ #[44, 44] 44 #[vo, .slice (some ⟨W.heap.size, 0, none⟩) 1 1]).run Try.prog (W.alloc (.cells #[.int .i64 n, .int .i64 c, v] 39)) = .ok v' W' ∧ StsO W' B v' (vs ++ [(n, c, v)]) (ss ++ [(n, c, l)]) ∧ Below B W W' := by
  have hA := alloc_bel (Below.refl W.heap.size W) (Nat.le_refl _) (.cells #[.int .i64 n, .int .i64 c, v] 39)
  have hg := alloc_at1 W (.cells #[.int .i64 n, .int .i64 c, v] 39)
  have h1 := h.next hA
  have hv1 := hv.next hA
  have hone : ∀ q ∈ [Value.int .i64 n, Value.int .i64 c, v], q.oneCell' = true := by
    obtain ⟨a, d, e⟩ := lnl_block hv
    intro q hq
    simp at hq
    rcases hq with rfl | rfl | rfl
    · rfl
    · rfl
    · rw [e]; rfl
  obtain ⟨i0, hi, hz0, hz1, hz2⟩ := info_parts st_info
  obtain ⟨v', W', hr, ho, hgr, _, _⟩ := run_append_own_at (P := Try.prog) (w := W.alloc (.cells #[.int .i64 n, .int .i64 c, v] 39)) B 44 44 39 i0 (.agg #[.int .i64 0, .int .i64 0, .slice none 0 0]) 3 40 Try.underlying44 hi hz0 hz1 hz2 (by rfl) (by decide) vo vs.length (rowCells stc vs) h1.row ⟨W.heap.size, 0, none⟩ 1 1 [.int .i64 n, .int .i64 c, v] rfl (fun j q hj => by
    have e := cellAt hg j
    rw [show (⟨W.heap.size, 0, none⟩ : Addr).add j = ⟨W.heap.size, j, none⟩ by rw [Addr.add_mid, Nat.zero_add], e]
    simpa using hj) hone (by unfold maxLen; omega) (by omega) (Nat.le_trans hB hA.size)
  have hC : ChgS (fun j => vo.ownBlock = some j) (W.alloc (.cells #[.int .i64 n, .int .i64 c, v] 39)) W' := ⟨hgr.os, hgr.tape, hgr.output, hgr.size, fun k hk hn => hgr.block k hk fun e => hn e.symm⟩
  have hkeep : ∀ (q : Value) (y : List RW.Ln), LnsO (W.alloc (.cells #[.int .i64 n, .int .i64 c, v] 39)) B q y → LnsO W' B q y := fun q y hq => own_keep hq fun g hg => hC.block _ (own_block hq hg).2.1 fun e => by
    obtain ⟨c1, k1⟩ := (own_block h1.row e).2.2
    obtain ⟨c2, k2⟩ := (own_block hq hg).2.2
    exact blocks_ne k1 k2 (by decide) rfl
  refine ⟨v', W', hr, ⟨by rw [List.length_append, rowCells_append]; exact ho, by rw [List.length_append, List.length_append, h.len]; rfl, fun i q y hq hy => ?_⟩, (hA.mono hB).trans (hC.below (fun k hk => (own_block h1.row hk).1) (Nat.le_trans hB hA.size))⟩
  rcases Nat.lt_or_ge i vs.length with hi | hi
  · rw [List.getElem?_append_left hi] at hq
    rw [List.getElem?_append_left (by rw [← h.len]; exact hi)] at hy
    obtain ⟨e1, e2, e3⟩ := h1.el i q y hq hy
    exact ⟨e1, e2, hkeep _ _ e3⟩
  · rw [List.getElem?_append_right hi] at hq
    rw [List.getElem?_append_right (by rw [← h.len]; exact hi)] at hy
    rcases hii : i - vs.length with _ | k
    · rw [hii] at hq
      rw [← h.len, hii] at hy
      simp at hq hy
      subst hq hy
      exact ⟨rfl, rfl, hkeep v _ hv1⟩
    · rw [hii] at hq
      simp at hq
end
theorem stv_cell {W : World} {b o j : Nat} {vs : List SV} {x : SV} (hc : ∀ i x, vs[i]? = some x → W.rangeAt b (o + i * 3) (stc x)) (hx : vs[j]? = some x) : W.rangeAt b (o + j * 3) (stc x) := hc j x hx
theorem st_ld {W : World} {b o : Nat} {x : SV} (h : W.rangeAt b o (stc x)) : (ldRow 39 (.pointer (some ⟨b, o, none⟩))).run Try.prog W = .ok (.agg #[.int .i64 x.1, .int .i64 x.2.1, x.2.2]) W :=
  ldRow_mid h Try.underlying39 rfl (st_size x)
theorem ix_st {b o n c : Nat} {j : Nat} (hj : j < n) (W : World) : (Instr.indexAt 44 (.slice (some ⟨b, o, none⟩) n c) (.int .i64 j)).run Try.prog W = .ok (.pointer (some ⟨b, o + j * 3, none⟩)) W := by
  go_simp
namespace RW
theorem take_eqS (l m : List St) (k : Nat) (x : St) (h1 : l[k]? = some x) (h2 : m[k]? = some x) (he : l.take k = m.take k) : l.take (k + 1) = m.take (k + 1) := by
  rw [List.take_add_one, List.take_add_one, h1, h2, he]
theorem ne_of_getS {l m : List St} {k : Nat} {x y : St} (h1 : l[k]? = some x) (h2 : m[k]? = some y) (h : x ≠ y) : l ≠ m := fun e => h (Option.some.inj (h1.symm.trans (e ▸ h2)))
end RW
theorem cf_rsame : ∀ args w, (callFunc 13 args).run Try.prog w = .ok (.enter 13 args) w := fun args w => by go_simp
set_option maxRecDepth 10000 in
set_option maxHeartbeats 2000000 in
theorem samelist_any (v u : Value) (l m : List RW.St) (hl : l.length ≤ 1000000) (hi : ∀ x ∈ l, x.2.2.length ≤ 1000000) (hi2 : ∀ x ∈ m, x.2.2.length ≤ 1000000) (w : World) (hv : StsV w v l) (hu : StsV w u m) :
    Calls Try.prog 17 #[v, u] w fun e w' => e = .returned (.bool (decide (l = m))) ∧ Below w.heap.size w w' := by
  obtain ⟨vs, ⟨a, ca, rfl, _, ha⟩, hvl, hve⟩ := hv
  obtain ⟨us, ⟨b, cb, rfl, _, hb⟩, hul, hue⟩ := hu
  have haH := hide ha
  have hbH := hide hb
  have hveH := hide hve
  have hueH := hide hue
  have hiH := hide hi
  have hi2H := hide hi2
  obtain ⟨q, hq⟩ : ∃ q, q = decide (l = m) := ⟨_, rfl⟩
  rw [← hq]
  have hqH := hide hq
  obtain ⟨n, hn⟩ : ∃ n, n = vs.length := ⟨_, rfl⟩
  obtain ⟨k, hk⟩ : ∃ k, k = us.length := ⟨_, rfl⟩
  rw [← hvl, ← hn] at hl
  rw [← hn, ← hk]
  have hnH := hide hn
  have hkH := hide hk
  have hvlH := hide hvl
  have hulH := hide hul
  clear ha hb hq hn hk hve hue hvl hul hi hi2
  by_cases hne : n = k
  · subst hne
    go_enter Try.func17, Try.ntmps17
    go_wp2
    go_loopw [5] (fun i wr => ∃ j : Nat, j ≤ n ∧ i = .int .i64 j ∧ Hid (l.take j = m.take j ∧ Below w.heap.size w wr)) (fun i _ => n - (intOf i).toNat)
    case atStart => exact ⟨0, Nat.zero_le _, rfl, rfl, Below.refl _ _⟩
    case round =>
      obtain ⟨j, hj, rfl, hP⟩ := hrel
      by_cases hlt : j < n
      · obtain ⟨x, hx⟩ : ∃ x, vs[j]? = some x := ⟨_, List.getElem?_eq_getElem (by rw [← hnH.out]; exact hlt)⟩
        obtain ⟨y, hy⟩ : ∃ y, us[j]? = some y := ⟨_, List.getElem?_eq_getElem (by rw [← hkH.out]; exact hlt)⟩
        obtain ⟨⟨p1, p2, p3⟩, hp⟩ : ∃ x, l[j]? = some x := ⟨_, List.getElem?_eq_getElem (by rw [← hvlH.out, ← hnH.out]; exact hlt)⟩
        obtain ⟨⟨r1, r2, r3⟩, hr⟩ : ∃ y, m[j]? = some y := ⟨_, List.getElem?_eq_getElem (by rw [← hulH.out, ← hkH.out]; exact hlt)⟩
        obtain ⟨x1, x2, xv⟩ := x
        obtain ⟨y1, y2, yv⟩ := y
        obtain ⟨k1, k2, hpv⟩ := hveH.out j _ _ hx hp
        obtain ⟨k3, k4, hrv⟩ := hueH.out j _ _ hy hr
        have k1' : x1 = p1 := k1
        have k2' : x2 = p2 := k2
        have k3' : y1 = r1 := k3
        have k4' : y2 = r2 := k4
        subst k1' k2' k3' k4'
        have hpl := hide (hiH.out _ (List.mem_of_getElem? hp))
        have hrl := hide (hi2H.out _ (List.mem_of_getElem? hr))
        have hpvH := hide hpv
        have hrvH := hide hrv
        obtain ⟨b1, o1, rfl, hb1, hc1⟩ := haH.out.resolve_left (by rintro rfl; have := hnH.out; simp at this; omega)
        obtain ⟨b2, o2, rfl, hb2, hc2⟩ := hbH.out.resolve_left (by rintro rfl; have := hkH.out; simp at this; omega)
        have hl1 := hide (fun (W : World) (hW : Below w.heap.size w W) => (show W.rangeAt b1 (o1 + j * 3) (stc (x1, x2, xv)) from fun i u hu => (World.cell?_of_block (a := ⟨b1, o1 + j * 3 + i, none⟩) (hW.block _ hb1)).trans (hc1 j _ hx i u hu)))
        have hl2 := hide (fun (W : World) (hW : Below w.heap.size w W) => (show W.rangeAt b2 (o2 + j * 3) (stc (y1, y2, yv)) from fun i u hu => (World.cell?_of_block (a := ⟨b2, o2 + j * 3 + i, none⟩) (hW.block _ hb2)).trans (hc2 j _ hy i u hu)))
        have hPB := hide hP.out.2
        have hPt := hide hP.out.1
        have hpH := hide hp
        have hrH := hide hr
        have hltH := hide hlt
        clear hx hy hb1 hb2 hc1 hc2 hp hr hP k1 k2 k3 k4 hpv hrv
        go_upto_region 6 with fail
        obtain ⟨qs, hqs⟩ : ∃ q, q = decide (x1 = y1 ∧ x2 = y2 ∧ p3 = r3) := ⟨_, rfl⟩
        have hqsH := hide hqs
        clear hqs
        refine wp_region_k (fun _ W => Below w.heap.size w W) (fun _ => True) [8] (.op 0 (.op 1 (.op 2 (.op 3 (.op 4 (.op 5 (.op 6 (.op 7 (.op 8 (.op 9 .nil)))))))))) (by kernel_rfl) (by kernel_rfl) (by rfl) (by kernel_rfl) hPB.out.drew trivial ?_
        refine k_val (.slice (some ⟨b1, o1, none⟩) n ca) (by apply opN; repeat' (first | apply OpAt.z | apply OpAt.s)) (by rfl) (by rfl) (fun _ W hS => op_mv rfl rfl) ?_
        simp only [Act.put, List.setIfInBounds_toArray, List.set_cons_zero, List.set_cons_succ]
        refine k_val (.int .i64 (j : Int)) (by apply opN; repeat' (first | apply OpAt.z | apply OpAt.s)) (by rfl) (by rfl) (fun _ W hS => op_mv rfl rfl) ?_
        simp only [Act.put, List.setIfInBounds_toArray, List.set_cons_zero, List.set_cons_succ]
        refine k_val (.pointer (some ⟨b1, o1 + j * 3, none⟩)) (by apply opN; repeat' (first | apply OpAt.z | apply OpAt.s)) (by rfl) (by rfl) (fun _ W hS => op_ix rfl rfl rfl (ix_st hltH.out W)) ?_
        simp only [Act.put, List.setIfInBounds_toArray, List.set_cons_zero, List.set_cons_succ]
        refine k_val (.agg #[.int .i64 x1, .int .i64 x2, xv]) (by apply opN; repeat' (first | apply OpAt.z | apply OpAt.s)) (by rfl) (by rfl) (fun _ W hS => op_ld rfl rfl (st_ld (hl1.out W hS))) ?_
        simp only [Act.put, List.setIfInBounds_toArray, List.set_cons_zero, List.set_cons_succ]
        refine k_val (.slice (some ⟨b2, o2, none⟩) n cb) (by apply opN; repeat' (first | apply OpAt.z | apply OpAt.s)) (by rfl) (by rfl) (fun _ W hS => op_mv rfl rfl) ?_
        simp only [Act.put, List.setIfInBounds_toArray, List.set_cons_zero, List.set_cons_succ]
        refine k_val (.int .i64 (j : Int)) (by apply opN; repeat' (first | apply OpAt.z | apply OpAt.s)) (by rfl) (by rfl) (fun _ W hS => op_mv rfl rfl) ?_
        simp only [Act.put, List.setIfInBounds_toArray, List.set_cons_zero, List.set_cons_succ]
        refine k_val (.pointer (some ⟨b2, o2 + j * 3, none⟩)) (by apply opN; repeat' (first | apply OpAt.z | apply OpAt.s)) (by rfl) (by rfl) (fun _ W hS => op_ix rfl rfl rfl (ix_st hltH.out W)) ?_
        simp only [Act.put, List.setIfInBounds_toArray, List.set_cons_zero, List.set_cons_succ]
        refine k_val (.agg #[.int .i64 y1, .int .i64 y2, yv]) (by apply opN; repeat' (first | apply OpAt.z | apply OpAt.s)) (by rfl) (by rfl) (fun _ W hS => op_ld rfl rfl (st_ld (hl2.out W hS))) ?_
        simp only [Act.put, List.setIfInBounds_toArray, List.set_cons_zero, List.set_cons_succ]
        refine k_step (fun K' u => u = .bool qs ∧ K' = fun _ => True) (by apply opN; repeat' (first | apply OpAt.z | apply OpAt.s)) (by rfl) (by rfl) (by rfl) (fun W hC hK => ?_) ?_
        · refine op_x2 rfl rfl rfl rfl cf_rsame ?_
          refine (rsame_any x1 x2 y1 y2 xv yv p3 r3 hpl.out hrl.out W (hpvH.out.next hC) (hrvH.out.next hC)).mono ?_
          rintro e W' ⟨rfl, h5⟩
          exact ⟨_, rfl, hC.trans (h5.mono hC.size), _, trivial, by rw [hqsH.out], rfl⟩
        rintro _ _ ⟨rfl, rfl⟩
        simp only [Act.put, List.setIfInBounds_toArray, List.set_cons_zero, List.set_cons_succ]
        refine k_val (.bool qs) (by apply opN; repeat' (first | apply OpAt.z | apply OpAt.s)) (by rfl) (by rfl) (fun _ W hS => op_asg rfl rfl) ?_
        simp only [Act.put, List.setIfInBounds_toArray, List.set_cons_zero, List.set_cons_succ]
        refine k_nil ?_
        intro W hC _
        have hCH := hide hC
        clear hC
        cases qs
        · have hpr := hide (show (x1, x2, p3) ≠ (y1, y2, r3) from fun e => of_decide_eq_false hqsH.out.symm (by cases e; exact ⟨rfl, rfl, rfl⟩))
          go_wp2
          go_ret
          exact ⟨by rw [hqH.out, decide_eq_false (RW.ne_of_getS hpH.out hrH.out hpr.out)] <;> rfl, hCH.out⟩
        · have hpr := hide (show (x1, x2, p3) = (y1, y2, r3) from by obtain ⟨e1, e2, e3⟩ := of_decide_eq_true hqsH.out.symm; rw [e1, e2, e3])
          go_wp2
          go_roundw
          case rel => exact ⟨j + 1, by omega, by go_num, RW.take_eqS l m j _ hpH.out (hpr.out ▸ hrH.out) hPt.out, hCH.out⟩
          case measure => simp [intOf]; omega
      · obtain rfl : j = n := by omega
        have hA : l = m := by
          have h1 := hP.out.1
          rwa [List.take_of_length_le (by rw [← hvlH.out, hnH.out]; exact Nat.le_refl _), List.take_of_length_le (by rw [← hulH.out, hkH.out]; exact Nat.le_refl _)] at h1
        have hAH := hide (show q = true by rw [hqH.out]; exact decide_eq_true hA)
        clear hA
        go_wp2
        go_ret
        exact ⟨by rw [hAH.out] <;> rfl, hP.out.2⟩
  · have e1 : ((n : Int) != (k : Int)) = true := by simp; omega
    have e2 : (n != k) = true := by simp; omega
    have hF := hide (show q = false by rw [hqH.out]; exact decide_eq_false fun h => hne (by rw [hnH.out, hkH.out, hvlH.out, hulH.out, h]))
    clear hne
    go_enter Try.func17, Try.ntmps17
    go_wp2
    go_ret
    exact ⟨by rw [hF.out] <;> rfl, Below.refl _ _⟩
end Go.Proofs.Ytillplhadimgmaa

/-
  Package graph: the closure of Clusters: an account put into its group; beside the clusters' map, the map of indexes and the list only new memory is written.
-/
import Derived.Test.YtbmlfejlmedmgaaG7
namespace Go.Proofs.Ytbmlfejlmedmgaa
open Go.RowKit RG
theorem CsR.st {W : World} {B B2 cb mb ab p0 p1 p2 : Nat} {va vd vo : Value} {R : RW.Nd → RW.Nd} {A D : List Int} {st st' : List (RW.Nd × List Int)} (h : CsR W B B2 cb mb ab p0 p1 p2 va vd vo R A D st) (he : ∀ r, RW.kidx st' r = RW.kidx st r) : CsR W B B2 cb mb ab p0 p1 p2 va vd vo R A D st' := by
  obtain ⟨L, h1, h2⟩ := h.mp
  exact ⟨h.cl, h.un, h.b0, h.b1, h.b2, ⟨L, h1, fun r => by rw [he]; exact h2 r⟩, h.u1, h.u2, h.ua, h.am, h.ba, h.bp, h.sz⟩
theorem vrow_cell {W : World} {B g n c i : Nat} {u : Value} {vs : List Value} (h : W.ownsRow B 27 1 (.slice (some ⟨g, 0, none⟩) n c) n vs) (hv : vs[i]? = some u) : W.cell? ⟨g, i, none⟩ = some u ∧ W.frozen? ⟨g, i, none⟩ = false := by
  obtain ⟨cur, hB, _, hg, hn, hm, hs, ht⟩ := own_row h rfl
  refine ⟨?_, by simp [World.frozen?, hg]⟩
  rw [cellAt hg, ← Array.getElem?_toList]
  rw [← ht, List.getElem?_take] at hv
  split at hv
  · exact hv
  · cases hv
theorem modify_snd (st : List (RW.Nd × List Int)) (i : Nat) (r : RW.Nd) (g : List Int) (x : Int) (h : st[i]? = some (r, g)) : (st.modify i fun e => (e.1, e.2 ++ [x])).map (·.2) = (st.map (·.2)).set i (g ++ [x]) := by
  apply List.ext_getElem?
  intro j
  rw [List.getElem?_map, List.getElem?_modify, List.getElem?_set, List.length_map, List.getElem?_map]
  by_cases hj : i = j
  · subst hj
    have hlt := (List.getElem?_eq_some_iff.1 h).1
    rw [h, if_pos rfl, if_pos hlt]
    simp
  · rw [if_neg hj]
    cases st[j]? <;> simp [hj]
/-- the state of Clusters -/
def CsS (B B2 cb mb ab p0 p1 p2 : Nat) (va vd : Value) (R : RW.Nd → RW.Nd) (A D : List Int) (st : List (RW.Nd × List Int)) (W : World) : Prop :=
  ∃ vo vs, CsR W B B2 cb mb ab p0 p1 p2 va vd vo R A D st ∧ OutA W B2 vo vs (st.map (·.2))
set_option maxRecDepth 10000 in
set_option maxHeartbeats 4000000 in
theorem add_any (B B2 cb mb ab p0 p1 p2 : Nat) (va vd : Value) (R : RW.Nd → RW.Nd) (A D : List Int) (st : List (RW.Nd × List Int)) (w : World) (x : Int) (hl : st.length ≤ 1000) (hg : ∀ e ∈ st, e.2.length ≤ 1000) (h : CsS B B2 cb mb ab p0 p1 p2 va vd R A D st w) :
    Calls Try.prog 26 #[.int .i64 x, .pointer (some ⟨p0, 0, none⟩), .pointer (some ⟨p1, 0, none⟩), .pointer (some ⟨p2, 0, none⟩)] w fun e w' => (∃ u, e = .returned u) ∧ CsS B B2 cb mb ab p0 p1 p2 va vd R A D (RW.gadd (fun a => R (false, a)) st x) w' ∧ Below B w w' := by
  obtain ⟨vo, vs, hC0, hO0⟩ := h
  have hC := hide hC0
  have hO := hide hO0
  obtain ⟨ao, co, hvo⟩ := hO0.form
  subst hvo
  obtain ⟨⟨rd, rn⟩, hr⟩ : ∃ r, r = R (false, x) := ⟨_, rfl⟩
  obtain ⟨st', hst'⟩ : ∃ s, s = RW.gadd (fun a => R (false, a)) st x := ⟨_, rfl⟩
  rw [← hst']
  have hadd := hst'
  rw [RW.gadd] at hadd
  simp only [← hr] at hadd
  have hFi := hide (find_any hC0.cl.fo (false, x))
  rw [← hr] at hFi
  have hFi' := hide (show Calls Try.prog 24 #[.agg #[.map (some mb)], .agg #[.bool false, .int .i64 x]] w fun e w' => e = .returned (.agg #[.bool rd, .int .i64 rn]) ∧ FoA w' mb R ∧ ChgS (fun j => j = mb) w w' from hFi.out)
  have hBB : B ≤ B2 := Nat.le_trans hC0.cl.hb (Nat.le_of_lt hC0.un.c)
  have hBBH := hide hBB
  have b0 : w.cell? ⟨p0, 0, none⟩ = some (.pointer (some ⟨cb, 0, none⟩)) := cellAt hC0.b0 0
  have c0 : w.cell? ⟨cb, 0, none⟩ = some (.map (some mb)) := hC0.cl.cell.1
  have haddH := hide hadd
  have hlH := hide hl
  have hgH := hide hg
  clear hFi hr hst' hadd hC0 hO0 hBB hl hg
  go_enter Try.func26, Try.ntmps26
  go_upto_region 1 with (go_at_call 24; refine hFi'.out.mono ?_; rintro e w1 ⟨rfl, g1, g2⟩; have k1 := hide (hC.out.find g1 g2); have k2 := hide (hO.out.chg g2 (fun g hg e => by have := hC.out.un.m; omega)); have k3 := hide (hC.out.cl.bel g2 fun j e => .inr (.inl e)); clear g1 g2)
  refine gen_w (fun W => CsR W B B2 cb mb ab p0 p1 p2 va vd (.slice ao vs.length co) R A D st ∧ OutA W B2 (.slice ao vs.length co) vs (st.map (·.2)) ∧ NdA W w1.heap.size (rd, rn) ∧ Below B w W) ?_ ?_
  · have hA3 := alloc_bel (Below.refl w1.heap.size w1) (Nat.le_refl _) (.cells #[.bool rd, .int .i64 rn] 51)
    exact ⟨k1.out.next (hA3.mono k1.out.sz), k2.out.next hA3, alloc_at1 _ _, k3.out.trans (hA3.mono (Nat.le_trans hBBH.out k1.out.sz))⟩
  obtain ⟨rb, hrb⟩ : ∃ r, r = w1.heap.size := ⟨_, rfl⟩
  rw [← hrb]
  clear hrb hFi' b0 c0 k1 k2 k3 hC hO
  rintro w2 ⟨hC0, hO0, hN0, hB0⟩
  have hC := hide hC0
  have hO := hide hO0
  have hBw := hide hB0
  obtain ⟨L, hL1, hL2⟩ := hC0.mp
  have hlk := hL1.lookup_ok key2 Try.underlying54 (z := .int .i64 0) (by go_simp) (rd, rn)
  rw [hL2] at hlk
  have b1 : w2.cell? ⟨p1, 0, none⟩ = some (.map (some ab)) := cellAt hC0.b1 0
  have b2 : w2.cell? ⟨p2, 0, none⟩ = some (.slice ao vs.length co) := cellAt hC0.b2 0
  have n0 : w2.cell? ⟨rb, 0, none⟩ = some (.bool rd) := hN0.c0
  have n1 : w2.cell? ⟨rb, 1, none⟩ = some (.int .i64 rn) := hN0.c1
  clear hC0 hO0 hN0 hB0
  cases hk : RW.kidx st (rd, rn) with
  | some i =>
    rw [hk] at hlk
    have hlk' : (Instr.lookup 54 (.map (some ab)) (.agg #[.bool rd, .int .i64 rn]) true).run Try.prog w2 = .ok (.tuple #[.int .i64 (i : Int), .bool true]) w2 := hlk
    obtain ⟨⟨r5, g5⟩, he5, her⟩ := RW.kidx_some hk
    simp only at her
    subst her
    have hk5 := hide he5
    have hfin := hide (show st' = st.modify i fun e => (e.1, e.2 ++ [x]) by rw [haddH.out, hk])
    have hgl := hide (show g5.length ≤ 1000 from hgH.out _ (List.mem_of_getElem? he5))
    clear hlk he5 hL1 hL2 hk haddH
    go_upto_region 6 with fail
    clear b1 b2 n0 n1 hlk'
    obtain ⟨vs5, hvs5⟩ : ∃ v, v = vs := ⟨_, rfl⟩
    obtain ⟨co5, hco5⟩ : ∃ v, v = co := ⟨_, rfl⟩
    subst hvs5
    subst hco5
    have hC5 := hC
    have hO5 := hO
    have hB5 := hBw
    clear hC hO hBw
    have hi5 := hide (show i < vs5.length by rw [hO5.out.len, List.length_map]; exact (List.getElem?_eq_some_iff.1 hk5.out).1)
    obtain ⟨gb, c5, cur5, hvo5, _, _⟩ := hO5.out.block hi5.out
    injection hvo5 with q1 q2 q3
    subst q1
    clear q2 q3
    obtain ⟨u5, hu5⟩ : ∃ u, vs5[i]? = some u := ⟨_, List.getElem?_eq_getElem hi5.out⟩
    have hg5 : ((st).map (·.2))[i]? = some g5 := by rw [List.getElem?_map, hk5.out]; rfl
    have hu5o := hO5.out.el i u5 g5 hu5 hg5
    obtain ⟨a5, d5, hu5f⟩ := hu5o.form
    have hu5H := hide hu5
    have hu5fH := hide hu5f
    have hg5H := hide hg5
    have cu5 : w2.cell? ⟨gb, i, none⟩ = some u5 := (vrow_cell hO5.out.row hu5).1
    have cu5H := hide cu5
    obtain ⟨m5, hm5⟩ : ∃ n, n = vs5.length := ⟨_, rfl⟩
    have hm5H := hide hm5
    rw [← hm5] at hC5 hO5 hi5
    clear hu5 hg5 hu5o hu5f cu5 hm5
    refine wp_region_k (fun g W => W.heap[p2]? = some (.cells #[.slice (some ⟨gb, 0, none⟩) m5 co5] 33 (0, 0)) ∧ (10 ∉ g → W.cell? ⟨gb, i, none⟩ = some u5)) (fun W => CsR W B B2 cb mb ab p0 p1 p2 va vd (.slice (some ⟨gb, 0, none⟩) m5 co5) R A D (st) ∧ OutA W B2 (.slice (some ⟨gb, 0, none⟩) m5 co5) vs5 ((st).map (·.2)) ∧ Below B w W) [7, 8, 10] (.op 0 (.op 1 (.op 2 (.op 3 (.op 4 (.op 5 (.op 6 (.op 7 (.op 8 (.op 9 (.op 10 .nil))))))))))) (by kernel_rfl) (by kernel_rfl) (by rfl) (by kernel_rfl) ⟨hC5.out.b2, fun _ => cu5H.out⟩ ⟨hC5.out.next ((Below.refl _ _).drew.mono hC5.out.sz), hO5.out.next (Below.refl _ _).drew, hB5.out.trans (Below.refl _ _).drew⟩ ?_
    refine k_val (.slice (some ⟨gb, 0, none⟩) m5 co5) (by apply opN; repeat' (first | apply OpAt.z | apply OpAt.s)) (by rfl) (by rfl) (fun _ W hS => op_load_ll rfl rfl (cellAt hS.1 0)) ?_
    simp only [Act.put, List.setIfInBounds_toArray, List.set_cons_zero, List.set_cons_succ]
    refine k_val (.int .i64 (i : Nat)) (by apply opN; repeat' (first | apply OpAt.z | apply OpAt.s)) (by rfl) (by rfl) (fun _ W hS => op_mv rfl rfl) ?_
    simp only [Act.put, List.setIfInBounds_toArray, List.set_cons_zero, List.set_cons_succ]
    refine k_val (.slice (some ⟨gb, 0, none⟩) m5 co5) (by apply opN; repeat' (first | apply OpAt.z | apply OpAt.s)) (by rfl) (by rfl) (fun _ W hS => op_load_ll rfl rfl (cellAt hS.1 0)) ?_
    simp only [Act.put, List.setIfInBounds_toArray, List.set_cons_zero, List.set_cons_succ]
    refine k_val (.int .i64 (i : Nat)) (by apply opN; repeat' (first | apply OpAt.z | apply OpAt.s)) (by rfl) (by rfl) (fun _ W hS => op_mv rfl rfl) ?_
    simp only [Act.put, List.setIfInBounds_toArray, List.set_cons_zero, List.set_cons_succ]
    refine k_val (.pointer (some ⟨gb, i, none⟩)) (by apply opN; repeat' (first | apply OpAt.z | apply OpAt.s)) (by rfl) (by rfl) (fun _ W hS => (op_idx_ll rfl rfl rfl hi5.out).trans (by rw [Nat.zero_add])) ?_
    simp only [Act.put, List.setIfInBounds_toArray, List.set_cons_zero, List.set_cons_succ]
    refine k_bef 10 (.slice a5 g5.length d5) (by apply opN; repeat' (first | apply OpAt.z | apply OpAt.s)) (by rfl) (by rfl) (by decide +kernel) (by rfl) (fun _ W hg hS => op_load_sl rfl rfl ((hS.2 hg).trans (congrArg some hu5fH.out))) ?_
    simp only [Act.put, List.setIfInBounds_toArray, List.set_cons_zero, List.set_cons_succ]
    refine k_val (.int .i64 x) (by apply opN; repeat' (first | apply OpAt.z | apply OpAt.s)) (by rfl) (by rfl) (fun _ W hS => op_mv rfl rfl) ?_
    simp only [Act.put, List.setIfInBounds_toArray, List.set_cons_zero, List.set_cons_succ]
    refine k_step (fun K' u => ∃ g, u = .slice (some ⟨g, 0, none⟩) 1 1 ∧ K' = fun W => (CsR W B B2 cb mb ab p0 p1 p2 va vd (.slice (some ⟨gb, 0, none⟩) m5 co5) R A D (st) ∧ OutA W B2 (.slice (some ⟨gb, 0, none⟩) m5 co5) vs5 ((st).map (·.2)) ∧ Below B w W) ∧ W.heap[g]? = some (.cells #[.int .i64 x] 3 (0, 0))) (by apply opN; repeat' (first | apply OpAt.z | apply OpAt.s)) (by rfl) (by rfl) (by rfl) (fun W hC hK => ?_) ?_
    · have hA7 := alloc_bel (Below.refl W.heap.size W) (Nat.le_refl _) (.cells #[.int .i64 x] 3)
      have hwlt := hK.1.sz
      have hp2 := hK.1.u2
      exact xup_val (op_bs_i rfl rfl) ⟨⟨(hA7.block _ (by omega)).trans hC.1, fun _ => (hA7.cell (p := ⟨gb, i, none⟩) (own_block hK.2.1.row rfl).2.1).trans (hC.2 (by decide))⟩, _, ⟨⟨hK.1.next (hA7.mono hwlt), hK.2.1.next hA7, hK.2.2.trans (hA7.mono (Nat.le_trans hBBH.out hwlt))⟩, alloc_at1 _ _⟩, _, rfl, rfl⟩
    rintro _ _ ⟨g7, rfl, rfl⟩
    simp only [Act.put, List.setIfInBounds_toArray, List.set_cons_zero, List.set_cons_succ]
    refine k_step (fun K' u => ∃ v8, u = v8 ∧ (∃ p n c, v8 = .slice p n c) ∧ K' = fun W => CsR W B B2 cb mb ab p0 p1 p2 va vd (.slice (some ⟨gb, 0, none⟩) m5 co5) R A D (st) ∧ W.ownsRow B2 27 1 (.slice (some ⟨gb, 0, none⟩) m5 co5) m5 vs5 ∧ OutA (W.setCell ⟨gb, i, none⟩ v8) B2 (.slice (some ⟨gb, 0, none⟩) m5 co5) (vs5.set i v8) (((st).map (·.2)).set i (g5 ++ [x])) ∧ Below B w W) (by apply opN; repeat' (first | apply OpAt.z | apply OpAt.s)) (by rfl) (by rfl) (by rfl) (fun W hC hK => ?_) ?_
    · obtain ⟨⟨hK1, hK2, hK3⟩, hg⟩ := hK
      have hel := hK2.el i u5 g5 hu5H.out hg5H.out
      obtain ⟨v8, W8, hrun, hO8, hC8, hv8⟩ := hel.app1 x (by have := hgl.out; omega) hK1.sz hg
      have hob := fun k (hk : u5.ownBlock = some k) => (own_block hel hk).1
      have hB8 : Below B2 W W8 := hC8.below hob hK1.sz
      have hU := OutA.upd (cap := co5) (gb := gb) (by rw [← hm5H.out]; exact hK2) hu5H.out hO8 hC8 (hv8.imp id fun e => ⟨_, e, Nat.le_refl _⟩)
      rw [← hm5H.out] at hU
      rw [hu5fH.out] at hrun
      exact xup_val (op_app rfl rfl rfl hrun) ⟨⟨(hB8.block _ hK1.u2).trans hC.1, fun _ => (vrow_cell hU.1 hu5H.out).1⟩, _, ⟨hK1.next hB8, hU.1, hU.2, hK3.trans (hB8.mono hBBH.out)⟩, _, rfl, (by obtain ⟨p, c, e⟩ := hO8.form; exact ⟨p, _, c, e⟩), rfl⟩
    rintro _ v8 ⟨_, rfl, hv8f, rfl⟩
    have hv8fH := hide hv8f
    clear hv8f
    simp only [Act.put, List.setIfInBounds_toArray, List.set_cons_zero, List.set_cons_succ]
    refine k_val (.pointer (some ⟨gb, i, none⟩)) (by apply opN; repeat' (first | apply OpAt.z | apply OpAt.s)) (by rfl) (by rfl) (fun _ W hS => (op_idx_ll rfl rfl rfl hi5.out).trans (by rw [Nat.zero_add])) ?_
    simp only [Act.put, List.setIfInBounds_toArray, List.set_cons_zero, List.set_cons_succ]
    refine k_step (fun K' u => K' = fun W => CsR W B B2 cb mb ab p0 p1 p2 va vd (.slice (some ⟨gb, 0, none⟩) m5 co5) R A D (st) ∧ OutA W B2 (.slice (some ⟨gb, 0, none⟩) m5 co5) (vs5.set i v8) (((st).map (·.2)).set i (g5 ++ [x])) ∧ Below B w W) (by apply opN; repeat' (first | apply OpAt.z | apply OpAt.s)) (by rfl) (by rfl) (by rfl) (fun W hC hK => ?_) ?_
    · obtain ⟨hK1, hK2, hK3, hK4⟩ := hK
      have hcf := vrow_cell hK2 hu5H.out
      have hgb := (own_block hK2 rfl).1
      have hBs := below_set (i := i) (Below.refl B2 W) hgb v8
      exact xup_skip (op_store_slv rfl rfl rfl hv8fH.out hcf.1 hcf.2) ⟨⟨(hBs.block _ hK1.u2).trans hC.1, fun h => absurd (by decide) h⟩, _, ⟨hK1.next hBs, hK3, hK4.trans (hBs.mono hBBH.out)⟩, rfl⟩
    rintro _ _ rfl
    simp only [Act.put]
    refine k_nil ?_
    intro W hC9 hK
    have hK1 := hide hK.1
    have hK2 := hide hK.2.1
    have hK3 := hide hK.2.2
    clear hC9 hK
    go_wp2
    go_end0
    refine ⟨⟨_, rfl⟩, ⟨_, vs5.set i v8, by rw [hfin.out]; exact hK1.out.st (RW.kidx_modify (st) · i x), ?_⟩, hK3.out⟩
    rw [hfin.out, modify_snd (st) i (rd, rn) g5 x hk5.out]
    exact hK2.out
  | none =>
    rw [hk] at hlk
    have hlk' : (Instr.lookup 54 (.map (some ab)) (.agg #[.bool rd, .int .i64 rn]) true).run Try.prog w2 = .ok (.tuple #[.int .i64 0, .bool false]) w2 := hlk
    have hnl := hide (show vs.length = st.length by rw [hO.out.len, List.length_map])
    obtain ⟨ns, hns⟩ : ∃ n, n = vs.length := ⟨_, rfl⟩
    rw [← hns] at hnl b2
    obtain ⟨w3, hup, hO3, f1, f2, f3, f4, f5⟩ := hL1.update key2 Try.underlying54 (rd, rn) (.int .i64 (ns : Int))
    have hup' : (Instr.mapUpdate 54 (.map (some ab)) (.agg #[.bool rd, .int .i64 rn]) (.int .i64 (ns : Int))).run Try.prog w2 = .ok () w3 := hup
    have hch := chg_upd f1 f2 f3 f4 f5
    obtain ⟨st1, hst1⟩ : ∃ s : List (RW.Nd × List Int), s = st ++ [((rd, rn), [])] := ⟨_, rfl⟩
    have hst1H := hide hst1
    have hmap1 := hide (show st1.map (·.2) = st.map (·.2) ++ [[]] by rw [hst1, List.map_append]; rfl)
    have hC3 := hide (hC.out.atput (st' := st1) ⟨_, hO3, fun r => by
      rw [KM.get_put, hst1, RW.kidx_snoc st r (rd, rn) [] hk]
      split
      · rw [hnl.out]; rfl
      · exact hL2 r⟩ hch)
    have hO3' := hide (hO.out.chg hch (fun g hg e => by have := hC.out.ua; omega))
    have hB3 := hide (hBw.out.trans (hch.below (fun k hk => by rw [hk]; exact hC.out.ba) (Nat.le_trans hBBH.out hC.out.sz)))
    obtain ⟨v4, w4, hrun, hO4, hB4⟩ := hO3'.out.appNil (by rw [← hns, hnl.out]; have := hlH.out; omega) hC3.out.sz
    rw [← hns] at hrun
    have c3 : w3.cell? ⟨p2, 0, none⟩ = some (.slice ao ns co) := by rw [hns]; exact cellAt hC3.out.b2 0
    have hC4 := hide (hC3.out.next hB4)
    have hO4H := hide hO4
    have hB4H := hide (hB3.out.trans (hB4.mono hBBH.out))
    have f4c := cellAt hC4.out.b2 0
    have f4f : w4.frozen? ⟨p2, 0, none⟩ = false := cl_frozen hC4.out.b2
    obtain ⟨a4, d4, hv4⟩ := hO4.form
    obtain ⟨n4, hn4⟩ : ∃ n, n = (vs ++ [Value.slice none 0 0]).length := ⟨_, rfl⟩
    rw [← hn4] at hv4
    subst hv4
    have hkH := hide hk
    have hn4H := hide hn4
    have hfin := hide (show st' = st1.modify ns fun e => (e.1, e.2 ++ [x]) by
      rw [haddH.out, hk, hnl.out, hst1H.out]
      apply List.ext_getElem?
      intro j
      rw [List.getElem?_modify]
      rcases Nat.lt_trichotomy j st.length with hj | hj | hj
      · rw [List.getElem?_append_left hj, List.getElem?_append_left hj]
        have hn : ¬ st.length = j := by omega
        cases st[j]? <;> simp [hn]
      · subst hj
        rw [List.getElem?_append_right (Nat.le_refl _), List.getElem?_append_right (Nat.le_refl _), Nat.sub_self]
        simp
      · rw [List.getElem?_eq_none (by simp; omega), List.getElem?_eq_none (by simp; omega)]
        rfl)
    clear hst1 hlk hup f1 f2 f3 f4 f5 hch hO3 hL1 hL2 hk hns hO4 hB4 haddH hn4
    go_upto_region 6 with (at_builtin; refine wpList_app_run rfl (.tmp 28) (.tmp 29) rfl rfl rfl hrun ?_)
    refine gen_w (fun W => CsR W B B2 cb mb ab p0 p1 p2 va vd (.slice a4 n4 d4) R A D st1 ∧ OutA W B2 (.slice a4 n4 d4) (vs ++ [.slice none 0 0]) (st1.map (·.2)) ∧ Below B w W) ?_ ?_
    · have hne : ∀ g, B2 ≤ g → g ≠ p2 := fun g hg e => by have := hC4.out.u2; omega
      refine ⟨hC4.out.setout _, ?_, below_set hB4H.out hC4.out.bp _⟩
      rw [hmap1.out]
      exact hO4H.out.chg ((ChgS.refl (fun j => j = p2) w4).set rfl _) hne
    rintro w5 ⟨j1, j2, j3⟩
    obtain ⟨vs5, hvs5⟩ : ∃ v, v = vs ++ [Value.slice none 0 0] := ⟨_, rfl⟩
    rw [← hvs5] at j2 hn4H
    have hC5 := hide j1
    have hO5 := hide j2
    have hB5 := hide j3
    rw [hn4H.out] at hC5 hO5
    obtain ⟨ao5, hao5⟩ : ∃ v, v = a4 := ⟨_, rfl⟩
    obtain ⟨co5, hco5⟩ : ∃ v, v = d4 := ⟨_, rfl⟩
    subst hao5
    subst hco5
    obtain ⟨g5, hg5e⟩ : ∃ g : List Int, g = [] := ⟨_, rfl⟩
    have hk5 := hide (show st1[ns]? = some ((rd, rn), g5) by rw [hst1H.out, hnl.out, List.getElem?_append_right (Nat.le_refl _), Nat.sub_self, hg5e]; rfl)
    have hgl := hide (show g5.length ≤ 1000 by rw [hg5e]; exact Nat.zero_le _)
    clear j1 j2 j3 hvs5 hg5e b1 b2 n0 n1 hlk' hup' hrun c3 f4c f4f hC hO hBw hC3 hO3' hB3 hC4 hO4H hB4H
    have hi5 := hide (show ns < vs5.length by rw [hO5.out.len, List.length_map]; exact (List.getElem?_eq_some_iff.1 hk5.out).1)
    obtain ⟨gb, c5, cur5, hvo5, _, _⟩ := hO5.out.block hi5.out
    injection hvo5 with q1 q2 q3
    subst q1
    clear q2 q3
    obtain ⟨u5, hu5⟩ : ∃ u, vs5[ns]? = some u := ⟨_, List.getElem?_eq_getElem hi5.out⟩
    have hg5 : ((st1).map (·.2))[ns]? = some g5 := by rw [List.getElem?_map, hk5.out]; rfl
    have hu5o := hO5.out.el ns u5 g5 hu5 hg5
    obtain ⟨a5, d5, hu5f⟩ := hu5o.form
    have hu5H := hide hu5
    have hu5fH := hide hu5f
    have hg5H := hide hg5
    have cu5 : w5.cell? ⟨gb, ns, none⟩ = some u5 := (vrow_cell hO5.out.row hu5).1
    have cu5H := hide cu5
    obtain ⟨m5, hm5⟩ : ∃ n, n = vs5.length := ⟨_, rfl⟩
    have hm5H := hide hm5
    rw [← hm5] at hC5 hO5 hi5
    clear hu5 hg5 hu5o hu5f cu5 hm5
    refine wp_region_k (fun g W => W.heap[p2]? = some (.cells #[.slice (some ⟨gb, 0, none⟩) m5 co5] 33 (0, 0)) ∧ (10 ∉ g → W.cell? ⟨gb, ns, none⟩ = some u5)) (fun W => CsR W B B2 cb mb ab p0 p1 p2 va vd (.slice (some ⟨gb, 0, none⟩) m5 co5) R A D (st1) ∧ OutA W B2 (.slice (some ⟨gb, 0, none⟩) m5 co5) vs5 ((st1).map (·.2)) ∧ Below B w W) [7, 8, 10] (.op 0 (.op 1 (.op 2 (.op 3 (.op 4 (.op 5 (.op 6 (.op 7 (.op 8 (.op 9 (.op 10 .nil))))))))))) (by kernel_rfl) (by kernel_rfl) (by rfl) (by kernel_rfl) ⟨hC5.out.b2, fun _ => cu5H.out⟩ ⟨hC5.out.next ((Below.refl _ _).drew.mono hC5.out.sz), hO5.out.next (Below.refl _ _).drew, hB5.out.trans (Below.refl _ _).drew⟩ ?_
    refine k_val (.slice (some ⟨gb, 0, none⟩) m5 co5) (by apply opN; repeat' (first | apply OpAt.z | apply OpAt.s)) (by rfl) (by rfl) (fun _ W hS => op_load_ll rfl rfl (cellAt hS.1 0)) ?_
    simp only [Act.put, List.setIfInBounds_toArray, List.set_cons_zero, List.set_cons_succ]
    refine k_val (.int .i64 (ns : Nat)) (by apply opN; repeat' (first | apply OpAt.z | apply OpAt.s)) (by rfl) (by rfl) (fun _ W hS => op_mv rfl rfl) ?_
    simp only [Act.put, List.setIfInBounds_toArray, List.set_cons_zero, List.set_cons_succ]
    refine k_val (.slice (some ⟨gb, 0, none⟩) m5 co5) (by apply opN; repeat' (first | apply OpAt.z | apply OpAt.s)) (by rfl) (by rfl) (fun _ W hS => op_load_ll rfl rfl (cellAt hS.1 0)) ?_
    simp only [Act.put, List.setIfInBounds_toArray, List.set_cons_zero, List.set_cons_succ]
    refine k_val (.int .i64 (ns : Nat)) (by apply opN; repeat' (first | apply OpAt.z | apply OpAt.s)) (by rfl) (by rfl) (fun _ W hS => op_mv rfl rfl) ?_
    simp only [Act.put, List.setIfInBounds_toArray, List.set_cons_zero, List.set_cons_succ]
    refine k_val (.pointer (some ⟨gb, ns, none⟩)) (by apply opN; repeat' (first | apply OpAt.z | apply OpAt.s)) (by rfl) (by rfl) (fun _ W hS => (op_idx_ll rfl rfl rfl hi5.out).trans (by rw [Nat.zero_add])) ?_
    simp only [Act.put, List.setIfInBounds_toArray, List.set_cons_zero, List.set_cons_succ]
    refine k_bef 10 (.slice a5 g5.length d5) (by apply opN; repeat' (first | apply OpAt.z | apply OpAt.s)) (by rfl) (by rfl) (by decide +kernel) (by rfl) (fun _ W hg hS => op_load_sl rfl rfl ((hS.2 hg).trans (congrArg some hu5fH.out))) ?_
    simp only [Act.put, List.setIfInBounds_toArray, List.set_cons_zero, List.set_cons_succ]
    refine k_val (.int .i64 x) (by apply opN; repeat' (first | apply OpAt.z | apply OpAt.s)) (by rfl) (by rfl) (fun _ W hS => op_mv rfl rfl) ?_
    simp only [Act.put, List.setIfInBounds_toArray, List.set_cons_zero, List.set_cons_succ]
    refine k_step (fun K' u => ∃ g, u = .slice (some ⟨g, 0, none⟩) 1 1 ∧ K' = fun W => (CsR W B B2 cb mb ab p0 p1 p2 va vd (.slice (some ⟨gb, 0, none⟩) m5 co5) R A D (st1) ∧ OutA W B2 (.slice (some ⟨gb, 0, none⟩) m5 co5) vs5 ((st1).map (·.2)) ∧ Below B w W) ∧ W.heap[g]? = some (.cells #[.int .i64 x] 3 (0, 0))) (by apply opN; repeat' (first | apply OpAt.z | apply OpAt.s)) (by rfl) (by rfl) (by rfl) (fun W hC hK => ?_) ?_
    · have hA7 := alloc_bel (Below.refl W.heap.size W) (Nat.le_refl _) (.cells #[.int .i64 x] 3)
      have hwlt := hK.1.sz
      have hp2 := hK.1.u2
      exact xup_val (op_bs_i rfl rfl) ⟨⟨(hA7.block _ (by omega)).trans hC.1, fun _ => (hA7.cell (p := ⟨gb, ns, none⟩) (own_block hK.2.1.row rfl).2.1).trans (hC.2 (by decide))⟩, _, ⟨⟨hK.1.next (hA7.mono hwlt), hK.2.1.next hA7, hK.2.2.trans (hA7.mono (Nat.le_trans hBBH.out hwlt))⟩, alloc_at1 _ _⟩, _, rfl, rfl⟩
    rintro _ _ ⟨g7, rfl, rfl⟩
    simp only [Act.put, List.setIfInBounds_toArray, List.set_cons_zero, List.set_cons_succ]
    refine k_step (fun K' u => ∃ v8, u = v8 ∧ (∃ p n c, v8 = .slice p n c) ∧ K' = fun W => CsR W B B2 cb mb ab p0 p1 p2 va vd (.slice (some ⟨gb, 0, none⟩) m5 co5) R A D (st1) ∧ W.ownsRow B2 27 1 (.slice (some ⟨gb, 0, none⟩) m5 co5) m5 vs5 ∧ OutA (W.setCell ⟨gb, ns, none⟩ v8) B2 (.slice (some ⟨gb, 0, none⟩) m5 co5) (vs5.set ns v8) (((st1).map (·.2)).set ns (g5 ++ [x])) ∧ Below B w W) (by apply opN; repeat' (first | apply OpAt.z | apply OpAt.s)) (by rfl) (by rfl) (by rfl) (fun W hC hK => ?_) ?_
    · obtain ⟨⟨hK1, hK2, hK3⟩, hg⟩ := hK
      have hel := hK2.el ns u5 g5 hu5H.out hg5H.out
      obtain ⟨v8, W8, hrun, hO8, hC8, hv8⟩ := hel.app1 x (by have := hgl.out; omega) hK1.sz hg
      have hob := fun k (hk : u5.ownBlock = some k) => (own_block hel hk).1
      have hB8 : Below B2 W W8 := hC8.below hob hK1.sz
      have hU := OutA.upd (cap := co5) (gb := gb) (by rw [← hm5H.out]; exact hK2) hu5H.out hO8 hC8 (hv8.imp id fun e => ⟨_, e, Nat.le_refl _⟩)
      rw [← hm5H.out] at hU
      rw [hu5fH.out] at hrun
      exact xup_val (op_app rfl rfl rfl hrun) ⟨⟨(hB8.block _ hK1.u2).trans hC.1, fun _ => (vrow_cell hU.1 hu5H.out).1⟩, _, ⟨hK1.next hB8, hU.1, hU.2, hK3.trans (hB8.mono hBBH.out)⟩, _, rfl, (by obtain ⟨p, c, e⟩ := hO8.form; exact ⟨p, _, c, e⟩), rfl⟩
    rintro _ v8 ⟨_, rfl, hv8f, rfl⟩
    have hv8fH := hide hv8f
    clear hv8f
    simp only [Act.put, List.setIfInBounds_toArray, List.set_cons_zero, List.set_cons_succ]
    refine k_val (.pointer (some ⟨gb, ns, none⟩)) (by apply opN; repeat' (first | apply OpAt.z | apply OpAt.s)) (by rfl) (by rfl) (fun _ W hS => (op_idx_ll rfl rfl rfl hi5.out).trans (by rw [Nat.zero_add])) ?_
    simp only [Act.put, List.setIfInBounds_toArray, List.set_cons_zero, List.set_cons_succ]
    refine k_step (fun K' u => K' = fun W => CsR W B B2 cb mb ab p0 p1 p2 va vd (.slice (some ⟨gb, 0, none⟩) m5 co5) R A D (st1) ∧ OutA W B2 (.slice (some ⟨gb, 0, none⟩) m5 co5) (vs5.set ns v8) (((st1).map (·.2)).set ns (g5 ++ [x])) ∧ Below B w W) (by apply opN; repeat' (first | apply OpAt.z | apply OpAt.s)) (by rfl) (by rfl) (by rfl) (fun W hC hK => ?_) ?_
    · obtain ⟨hK1, hK2, hK3, hK4⟩ := hK
      have hcf := vrow_cell hK2 hu5H.out
      have hgb := (own_block hK2 rfl).1
      have hBs := below_set (i := ns) (Below.refl B2 W) hgb v8
      exact xup_skip (op_store_slv rfl rfl rfl hv8fH.out hcf.1 hcf.2) ⟨⟨(hBs.block _ hK1.u2).trans hC.1, fun h => absurd (by decide) h⟩, _, ⟨hK1.next hBs, hK3, hK4.trans (hBs.mono hBBH.out)⟩, rfl⟩
    rintro _ _ rfl
    simp only [Act.put]
    refine k_nil ?_
    intro W hC9 hK
    have hK1 := hide hK.1
    have hK2 := hide hK.2.1
    have hK3 := hide hK.2.2
    clear hC9 hK
    go_wp2
    go_end0
    refine ⟨⟨_, rfl⟩, ⟨_, vs5.set ns v8, by rw [hfin.out]; exact hK1.out.st (RW.kidx_modify (st1) · ns x), ?_⟩, hK3.out⟩
    rw [hfin.out, modify_snd (st1) ns (rd, rn) g5 x hk5.out]
    exact hK2.out
end Go.Proofs.Ytbmlfejlmedmgaa

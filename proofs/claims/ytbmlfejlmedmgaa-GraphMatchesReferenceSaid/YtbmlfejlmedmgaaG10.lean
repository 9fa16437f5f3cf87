/-
  Package royaltylaw10: pick, few: what they return; only new memory is written.
-/
import Derived.Test.YtbmlfejlmedmgaaG9
namespace Go.Proofs.Ytbmlfejlmedmgaa
open Go.RowKit RG
namespace RW
def pickI (c n : Int) : Int := (if c < 0 then -(c + 1) else c) % n
theorem pickI_bd (c n : Int) (h : 1 ≤ n) : 0 ≤ pickI c n ∧ pickI c n < n := ⟨Int.emod_nonneg _ (by omega), Int.emod_lt_of_pos _ (by omega)⟩
def i64b (x : Int) : Prop := -9223372036854775808 ≤ x ∧ x ≤ 9223372036854775807
/-- an edge's numbers made small, or left -/
def small (raw : Bool) (e : Ed) : Ed := if raw = true then e else (pickI e.1 14, pickI e.2 12)
def fewL (raw : Bool) (l : List Ed) : List Ed := (l.take 50).map (small raw)
theorem fewL_len (raw : Bool) (l : List Ed) : (fewL raw l).length ≤ 50 := by
  unfold fewL
  rw [List.length_map, List.length_take]
  omega
end RW
theorem pick_any (c n : Int) (hc : -9223372036854775808 ≤ c) (hc2 : c ≤ 9223372036854775807) (h : 1 ≤ n) (hn : n ≤ 9223372036854775807) (w : World) : Calls Try.prog 10 #[.int .i64 c, .int .i64 n] w fun e w' => e = .returned (.int .i64 (RW.pickI c n)) ∧ w = w' := by
  by_cases h0 : c < 0
  · have h1 : 0 ≤ -(c + 1) := by omega
    have e : RW.pickI c n = -(c + 1) % n := by unfold RW.pickI; rw [if_pos h0]
    have eH := hide e
    clear e
    go_enter Try.func10, Try.ntmps10
    go_wp2
    go_ret
    refine ⟨?_, rfl⟩
    rw [eH.out, ← Int.tmod_eq_emod_of_nonneg h1, Int.neg_tmod]
    rfl
  · have e : RW.pickI c n = c % n := by unfold RW.pickI; rw [if_neg h0]
    have eH := hide e
    clear e
    go_enter Try.func10, Try.ntmps10
    go_wp2
    go_ret
    exact ⟨by rw [eH.out]; rfl, rfl⟩
/-- a row of edges of the call's own -/
abbrev EdsO (W : World) (B : Nat) (v : Value) (L : List RW.Ed) : Prop := W.ownsRow B 38 2 v L.length (rowCells RW.edl L)
theorem EdsO.row {W : World} {B : Nat} {v : Value} {L : List RW.Ed} (h : EdsO W B v L) : RowV 2 RW.edl W v L := rowV_own (B := B) (e := 38) (n := L.length) (fun _ => rfl) (by decide) h
theorem EdsO.form {W : World} {B : Nat} {v : Value} {L : List RW.Ed} (h : EdsO W B v L) : ∃ a c, v = .slice a L.length c := by
  rcases h.2 with ⟨rfl, h0⟩ | ⟨g, cap, cur, rfl, _⟩
  · exact ⟨none, 0, by rw [h0]⟩
  · exact ⟨_, _, rfl⟩
theorem EdsO.nil (W : World) (B : Nat) : EdsO W B (.slice none 0 0) [] := ⟨rfl, .inl ⟨rfl, rfl⟩⟩
theorem EdsO.next {W W' : World} {B : Nat} {v : Value} {L : List RW.Ed} (h : EdsO W B v L) (hB : Below W.heap.size W W') : EdsO W' B v L := own_keep h fun g hg => hB.block _ (own_block h hg).2.1
theorem edge_info : (Try.prog.info? 38).map (fun i => (i.zero, i.size, i.bytes)) = some (some (.agg #[.int .i64 0, .int .i64 0]), 2, 16) := by kernel_rfl
theorem edl_one : ∀ (x : RW.Ed), ∀ u ∈ RW.edl x, u.oneCell' = true := by
  intro x u hu
  simp only [RW.edl, List.mem_cons, List.not_mem_nil, or_false] at hu
  rcases hu with rfl | rfl <;> rfl
/-- a row appended -/
theorem EdsO.appRow {W : World} {B : Nat} {v y : Value} {L m : List RW.Ed} (h : EdsO W B v L) (hy : RowV 2 RW.edl W y m) (hl : L.length ≤ 10000) (hm : m.length ≤ 10000) (hB : B ≤ W.heap.size) :
    ∃ v' W', (Builtin.append_ #[22, 22] 22 #[v, y]).run Try.prog W = .ok v' W' ∧ EdsO W' B v' (L ++ m) ∧ Below B W W' ∧ ChgS (fun j => v.ownBlock = some j) W W' ∧ (v'.ownBlock = v.ownBlock ∨ v'.ownBlock = some W.heap.size) := by
  obtain ⟨v', W', h1, h2, h3, h4, h5⟩ := run_app_at (P := Try.prog) 22 Try.underlying22 edge_info (by rfl) (by decide) (fun _ => rfl) edl_one h hB hy (by unfold maxLen; omega) (by omega)
  exact ⟨v', W', h1, h2, h3, ⟨h4.os, h4.tape, h4.output, h4.size, fun k hk hn => h4.block k hk fun e => hn e.symm⟩, h5⟩
theorem EdsO.appNew {W : World} {B : Nat} {v : Value} {L : List RW.Ed} (h : EdsO W B v L) (x : RW.Ed) (hl : L.length ≤ 10000) (hB : B ≤ W.heap.size) :
    ∃ v' W', (Builtin.append_ #[22, 22] 22 #[v, .slice (some ⟨W.heap.size, 0, none⟩) 1 1]).run Try.prog (W.alloc (.cells #[.int .i64 x.1, .int .i64 x.2] 38)) = .ok v' W' ∧ EdsO W' B v' (L ++ [x]) ∧ Below B W W' := by
  have hA := alloc_bel (Below.refl W.heap.size W) (Nat.le_refl _) (.cells #[.int .i64 x.1, .int .i64 x.2] 38)
  have hlit : RowV 2 RW.edl (W.alloc (.cells (rowCells RW.edl [x]).toArray 38)) (.slice (some ⟨W.heap.size, 0, none⟩) 1 1) [x] := rows_lit (k := 2) (enc := RW.edl) W 38 (fun _ => rfl) [x]
  obtain ⟨v', W', g1, g2, g3, _⟩ := (h.next hA).appRow (y := .slice (some ⟨W.heap.size, 0, none⟩) 1 1) (m := [x]) hlit hl (by simp) (Nat.le_trans hB hA.size)
  exact ⟨v', W', g1, g2, (hA.mono hB).trans g3⟩
theorem op_build_e {ev : Operand → Value} {o : Oper} {x y : Operand} {w : World} {m n : Int} (ho : o.op = .build 38 #[(0, x), (1, y)]) (hx : ev x = .int .i64 m) (hy : ev y = .int .i64 n) : (execOp ev o).run Try.prog w = .ok (.value (.agg #[.int .i64 m, .int .i64 n])) w := by
  unfold execOp
  rw [ho]
  go_simp
theorem op_store_e {ev : Operand → Value} {o : Oper} {x y : Operand} {w : World} {b i : Nat} {m n : Int} {u v : Value} (ho : o.op = .store 38 x y) (hx : ev x = .pointer (some ⟨b, i, none⟩)) (hy : ev y = .agg #[.int .i64 m, .int .i64 n]) (hc : w.cell? ⟨b, i, none⟩ = some u) (hc2 : w.cell? ⟨b, i + 1, none⟩ = some v) (hf : w.frozen? ⟨b, i, none⟩ = false) (hf2 : w.frozen? ⟨b, i + 1, none⟩ = false) :
    (execOp ev o).run Try.prog w = .ok .skip ((w.setCell ⟨b, i, none⟩ (.int .i64 m)).setCell ⟨b, i + 1, none⟩ (.int .i64 n)) := by
  unfold execOp
  rw [ho]
  simp only [hx, hy]
  go_simp
set_option maxRecDepth 10000 in
set_option maxHeartbeats 4000000 in
theorem few_any (v : Value) (l : List RW.Ed) (raw : Bool) (hl : ∀ e ∈ l, RW.i64b e.1 ∧ RW.i64b e.2) (w : World) (hv : RowV 2 RW.edl w v l) :
    Calls Try.prog 9 #[v, .bool raw] w fun e w' => ∃ u, e = .returned u ∧ EdsO w' w.heap.size u (RW.fewL raw l) ∧ Below w.heap.size w w' := by
  obtain ⟨av, cv, rfl, _, hav⟩ := hv
  obtain ⟨m, hm⟩ : ∃ m, m = l.length := ⟨_, rfl⟩
  have hmH := hide hm
  have havH := hide hav
  have hlH := hide hl
  rw [← hm]
  obtain ⟨B, hB⟩ : ∃ B, B = w.heap.size := ⟨_, rfl⟩
  have hBH := hide hB
  rw [← hB]
  clear hm hav hB hl
  go_enter Try.func9, Try.ntmps9
  go_wp2
  go_loopw [5, 6] (fun u i wr => ∃ j : Nat, i = .int .i64 j ∧ j ≤ 50 ∧ Hid (j ≤ m ∧ EdsO wr B u ((l.take j).map (RW.small raw)) ∧ Below B w wr)) (fun _ i _ => 50 - (intOf i).toNat)
  case atStart => exact ⟨0, rfl, Nat.zero_le _, Nat.zero_le _, EdsO.nil _ _, by rw [hBH.out]; exact Below.refl _ _⟩
  case round =>
    obtain ⟨j, rfl, hj, hQ⟩ := hrel
    obtain ⟨wo, hwo⟩ : ∃ wo, wo = wr := ⟨_, rfl⟩
    subst hwo
    obtain ⟨hjm, hO0, hB0⟩ := hQ.out
    obtain ⟨au, cu, rfl⟩ := hO0.form
    have hO := hide hO0
    have hBw := hide hB0
    have hsz := hide (show B ≤ wo.heap.size by rw [hBH.out]; exact hBH.out ▸ hB0.size)
    obtain ⟨nu, hnu⟩ : ∃ n, n = ((l.take j).map (RW.small raw)).length := ⟨_, rfl⟩
    rw [← hnu] at hO
    rw [← hnu]
    have hjmH := hide hjm
    have hnuH := hide hnu
    clear hQ hO0 hB0 hnu hjm
    obtain ⟨c, hc⟩ : ∃ c : Bool, c = decide (j < m ∧ j < 50) := ⟨_, rfl⟩
    have hcH := hide hc
    clear hc
    go_upto_region 3 with fail
    go_cut [15] (fun s wx => s = .bool c ∧ wx = wo)
    case first =>
      by_cases h1 : j < m
      · by_cases h2 : j < 50
        · have h2i : (j : Int) < 50 := by omega
          go_wp2
          all_goals go_meet
          all_goals exact ⟨by rw [hcH.out, decide_eq_true (show j < m ∧ j < 50 from ⟨h1, h2⟩)] <;> rfl, rfl⟩
        · have h2i : ¬ (j : Int) < 50 := by omega
          go_wp2
          all_goals go_meet
          all_goals exact ⟨by rw [hcH.out, decide_eq_false (show ¬ (j < m ∧ j < 50) from fun h => h2 h.2)] <;> rfl, rfl⟩
      · go_wp2
        all_goals go_meet
        all_goals exact ⟨by rw [hcH.out, decide_eq_false (show ¬ (j < m ∧ j < 50) from fun h => h1 h.1)] <;> rfl, rfl⟩
    case rest =>
    obtain ⟨rfl, hwx⟩ := hcut
    have hwx' := hwx.symm
    subst hwx'
    cases c
    · have hfl := hide (show RW.fewL raw l = (l.take j).map (RW.small raw) by
        have hd : ¬ (j < m ∧ j < 50) := of_decide_eq_false hcH.out.symm
        have hjm := hjmH.out
        have hml := hmH.out
        unfold RW.fewL
        by_cases h5 : j < 50
        · have : j = l.length := by
            have : ¬ j < m := fun h => hd ⟨h, h5⟩
            omega
          rw [List.take_of_length_le (by omega), List.take_of_length_le (by omega)]
        · rw [show j = 50 by omega])
      clear hcH
      go_wp2
      refine bodyPost_ret (results_tmp rfl _ _ _) rfl ⟨.slice au nu cu, rfl, ?_, hBH.out ▸ hBw.out⟩
      rw [hfl.out]
      have h1 := hO.out
      rw [hnuH.out] at h1 ⊢
      exact h1
    · obtain ⟨hlt, hj50⟩ : j < m ∧ j < 50 := of_decide_eq_true hcH.out.symm
      obtain ⟨⟨ac, dv⟩, hx⟩ : ∃ x, l[j]? = some x := ⟨_, List.getElem?_eq_getElem (by rw [← hmH.out]; exact hlt)⟩
      have hxb := hide (hlH.out _ (List.mem_of_getElem? hx))
      obtain ⟨bq, oq, rfl, hbq, hcq⟩ := havH.out.resolve_left (by rintro rfl; simp at hx)
      have hcell : ∀ i u, (RW.edl (ac, dv))[i]? = some u → wo.cell? ⟨bq, oq + j * 2 + i, none⟩ = some u := fun i u hu => (World.cell?_of_block (a := ⟨bq, oq + j * 2 + i, none⟩) (hBw.out.block _ (by rw [hBH.out]; exact hbq))).trans (hcq j (ac, dv) hx i u hu)
      have e0 : wo.cell? ⟨bq, oq + j * 2, none⟩ = some (.int .i64 ac) := hcell 0 _ rfl
      have e1 : wo.cell? ⟨bq, oq + j * 2 + 1, none⟩ = some (.int .i64 dv) := hcell 1 _ rfl
      have htk := hide (show (l.take (j + 1)).map (RW.small raw) = (l.take j).map (RW.small raw) ++ [RW.small raw (ac, dv)] by rw [List.take_add_one, hx, List.map_append]; rfl)
      have hP1 := hide (fun W => pick_any ac 14 hxb.out.1.1 hxb.out.1.2 (by decide) (by decide) W)
      have hP2 := hide (fun W => pick_any dv 12 hxb.out.2.1 hxb.out.2.2 (by decide) (by decide) W)
      clear hbq hcq hx hcell hcH
      go_upto_region 6 with fail
      refine gen_w (fun W => EdA W wo.heap.size (ac, dv) ∧ EdsO W B (.slice au nu cu) ((l.take j).map (RW.small raw)) ∧ Below B w W) ⟨alloc_at1 _ _, by have := hO.out; rw [hnuH.out] at this; exact hnuH.out ▸ EdsO.next this (alloc_bel (Below.refl _ _) (Nat.le_refl _) _), hBw.out.alloc hsz.out _⟩ ?_
      obtain ⟨eb, heb⟩ : ∃ e, e = wo.heap.size := ⟨_, rfl⟩
      have hebB := hide (show B ≤ eb by rw [heb]; exact hsz.out)
      have hneH := hide (fun g (hg : (Value.slice au nu cu).ownBlock = some g) => (show g ≠ eb by
        have h1 := hO.out
        rw [hnuH.out] at h1
        have := (own_block h1 (g := g) (hnuH.out ▸ hg)).2.1
        omega))
      rw [← heb]
      clear e0 e1 heb hO hBw hsz
      rintro w5 ⟨hE0, hO0, hB0⟩
      have hE := hide hE0
      have hO := hide hO0
      have hBw := hide hB0
      clear hE0 hO0 hB0
      cases raw
      · have hsm := hide (show RW.small false (ac, dv) = (RW.pickI ac 14, RW.pickI dv 12) from rfl)
        rw [hsm.out] at htk
        obtain ⟨p, hp⟩ : ∃ p, p = RW.pickI ac 14 := ⟨_, rfl⟩
        obtain ⟨q, hq⟩ : ∃ p, p = RW.pickI dv 12 := ⟨_, rfl⟩
        rw [← hp] at hP1 htk
        rw [← hq] at hP2 htk
        clear hp hq hsm
        go_upto_region 7 with fail
        refine wp_region_k (fun g W => 7 ∉ g → EdA W eb (ac, dv)) (fun W => EdA W eb (ac, dv) ∧ EdsO W B (.slice au nu cu) ((l.take j).map (RW.small false)) ∧ Below B w W) [2, 5, 7] (.op 0 (.op 1 (.op 3 (.op 4 (.op 2 (.op 5 (.op 6 (.op 7 .nil)))))))) (by kernel_rfl) (by kernel_rfl) (by rfl) (by kernel_rfl) (fun _ => hE.out) ⟨hE.out, hO.out.next (Below.refl _ _).drew, hBw.out.trans (Below.refl _ _).drew⟩ ?_
        refine k_val (.pointer (some ⟨eb, 0, none⟩)) (by apply opN; repeat' (first | apply OpAt.z | apply OpAt.s)) (by rfl) (by rfl) (fun _ W hS => op_fa_e0 rfl rfl) ?_
        simp only [Act.put, List.setIfInBounds_toArray, List.set_cons_zero, List.set_cons_succ]
        refine k_bef 7 (.int .i64 ac) (by apply opN; repeat' (first | apply OpAt.z | apply OpAt.s)) (by rfl) (by rfl) (by decide +kernel) (by rfl) (fun _ W hg hS => op_load_int rfl rfl (hS hg).c0) ?_
        simp only [Act.put, List.setIfInBounds_toArray, List.set_cons_zero, List.set_cons_succ]
        refine k_val (.pointer (some ⟨eb, 0 + 1, none⟩)) (by apply opN; repeat' (first | apply OpAt.z | apply OpAt.s)) (by rfl) (by rfl) (fun _ W hS => op_fa_e1 rfl rfl) ?_
        simp only [Act.put, List.setIfInBounds_toArray, List.set_cons_zero, List.set_cons_succ]
        refine k_bef 7 (.int .i64 dv) (by apply opN; repeat' (first | apply OpAt.z | apply OpAt.s)) (by rfl) (by rfl) (by decide +kernel) (by rfl) (fun _ W hg hS => op_load_int rfl rfl (hS hg).c1) ?_
        simp only [Act.put, List.setIfInBounds_toArray, List.set_cons_zero, List.set_cons_succ]
        refine k_step (fun K' u => u = .int .i64 p ∧ K' = fun W => EdA W eb (ac, dv) ∧ EdsO W B (.slice au nu cu) ((l.take j).map (RW.small false)) ∧ Below B w W) (by apply opN; repeat' (first | apply OpAt.z | apply OpAt.s)) (by rfl) (by rfl) (by rfl) (fun W hC hK => ?_) ?_
        · refine op_x2 rfl rfl rfl rfl (fun _ _ => rfl) ((hP1.out W).mono ?_)
          rintro e W' ⟨rfl, rfl⟩
          exact ⟨_, rfl, fun _ => hK.1, _, hK, rfl, rfl⟩
        rintro _ _ ⟨rfl, rfl⟩
        simp only [Act.put, List.setIfInBounds_toArray, List.set_cons_zero, List.set_cons_succ]
        refine k_step (fun K' u => u = .int .i64 q ∧ K' = fun W => EdA W eb (ac, dv) ∧ EdsO W B (.slice au nu cu) ((l.take j).map (RW.small false)) ∧ Below B w W) (by apply opN; repeat' (first | apply OpAt.z | apply OpAt.s)) (by rfl) (by rfl) (by rfl) (fun W hC hK => ?_) ?_
        · refine op_x2 rfl rfl rfl rfl (fun _ _ => rfl) ((hP2.out W).mono ?_)
          rintro e W' ⟨rfl, rfl⟩
          exact ⟨_, rfl, fun _ => hK.1, _, hK, rfl, rfl⟩
        rintro _ _ ⟨rfl, rfl⟩
        simp only [Act.put, List.setIfInBounds_toArray, List.set_cons_zero, List.set_cons_succ]
        refine k_val (.agg #[.int .i64 p, .int .i64 q]) (by apply opN; repeat' (first | apply OpAt.z | apply OpAt.s)) (by rfl) (by rfl) (fun _ W hS => op_build_e rfl rfl rfl) ?_
        simp only [Act.put, List.setIfInBounds_toArray, List.set_cons_zero, List.set_cons_succ]
        refine k_step (fun K' u => K' = fun W => EdA W eb (p, q) ∧ EdsO W B (.slice au nu cu) ((l.take j).map (RW.small false)) ∧ Below B w W) (by apply opN; repeat' (first | apply OpAt.z | apply OpAt.s)) (by rfl) (by rfl) (by rfl) (fun W hC hK => ?_) ?_
        · have hne := hneH.out
          have hf : ∀ i, W.frozen? ⟨eb, i, none⟩ = false := fun i => cl_frozen hK.1
          exact xup_skip (op_store_e rfl rfl rfl hK.1.c0 hK.1.c1 (hf _) (hf _)) ⟨fun h => absurd (by decide) h, _, ⟨set_two hK.1, own_keep hK.2.1 fun g hg => (set_else _ _ (hne g hg)).trans (set_else _ _ (hne g hg)), below_set (below_set hK.2.2 hebB.out _) hebB.out _⟩, rfl⟩
        rintro _ _ rfl
        simp only [Act.put]
        refine k_nil ?_
        intro w7 hC hK
        have hE7 := hide hK.1
        have hO7 := hide hK.2.1
        have hB7 := hide hK.2.2
        clear hC hK hE hO hBw
        have k0 : w7.cell? ⟨eb, 0, none⟩ = some (.int .i64 ((p, q).1)) := hE7.out.c0
        have k1 : w7.cell? ⟨eb, 1, none⟩ = some (.int .i64 ((p, q).2)) := hE7.out.c1
        obtain ⟨v8, w8, hrun, hO8, hB8⟩ := hO7.out.appNew (p, q) (by rw [List.length_map, List.length_take]; omega) (Nat.le_trans hebB.out (Nat.le_of_lt hE7.out.lt))
        have hO8H := hide hO8
        have hB8H := hide (hB7.out.trans hB8)
        clear hO8 hB8
        go_wp2_with (at_builtin; refine wpList_app_run rfl (.tmp 31) (.tmp 33) rfl rfl rfl hrun ?_)
        go_roundw
        case rel => exact ⟨j + 1, by go_num, by omega, hlt, by rw [htk.out]; exact hO8H.out, hB8H.out⟩
        case measure => simp [intOf]; omega
      · have hsm := hide (show RW.small true (ac, dv) = (ac, dv) from rfl)
        rw [hsm.out] at htk
        have hE7 := hE
        have hO7 := hO
        have hB7 := hBw
        clear hsm hE hO hBw
        have k0 : w5.cell? ⟨eb, 0, none⟩ = some (.int .i64 ((ac, dv).1)) := hE7.out.c0
        have k1 : w5.cell? ⟨eb, 1, none⟩ = some (.int .i64 ((ac, dv).2)) := hE7.out.c1
        obtain ⟨v8, w8, hrun, hO8, hB8⟩ := hO7.out.appNew (ac, dv) (by rw [List.length_map, List.length_take]; omega) (Nat.le_trans hebB.out (Nat.le_of_lt hE7.out.lt))
        have hO8H := hide hO8
        have hB8H := hide (hB7.out.trans hB8)
        clear hO8 hB8
        go_wp2_with (at_builtin; refine wpList_app_run rfl (.tmp 31) (.tmp 33) rfl rfl rfl hrun ?_)
        go_roundw
        case rel => exact ⟨j + 1, by go_num, by omega, hlt, by rw [htk.out]; exact hO8H.out, hB8H.out⟩
        case measure => simp [intOf]; omega
end Go.Proofs.Ytbmlfejlmedmgaa

/-
  Package graph: Joined, Degree, Cluster: what they return; only new memory is written.
-/
import Derived.Test.YtbmlfejlmedmgaaG4
namespace Go.Proofs.Ytbmlfejlmedmgaa
open Go.RowKit RG
namespace RW
def accs (l : List Ed) : List Int := asc (l.map (·.1))
def devs (l : List Ed) : List Int := asc (l.map (·.2))
def jn (l : List Ed) (a b : Int) : Bool := decide (rOf l (false, a) = rOf l (false, b))
def cAcc (l : List Ed) (x : Int) : List Int := if (accs l).contains x = true then (accs l).filter (fun y => decide (rOf l (false, y) = rOf l (false, x))) else []
def cDev (l : List Ed) (x : Int) : List Int := if (accs l).contains x = true then (devs l).filter (fun y => decide (rOf l (true, y) = rOf l (false, x))) else []
def dgr (l : List Ed) (d : Int) : Nat := (asc ((l.filter fun e => decide (e.2 = d)).map (·.1))).length
theorem filter_snoc {α : Type} (p : α → Bool) (l : List α) (j : Nat) (x : α) (h : l[j]? = some x) : (l.take (j + 1)).filter p = (l.take j).filter p ++ (if p x = true then [x] else []) := by
  rw [List.take_add_one, h, List.filter_append]
  congr 1
  show List.filter p [x] = _
  rw [List.filter_cons, List.filter_nil]
end RW
set_option maxRecDepth 10000 in
set_option maxHeartbeats 2000000 in
theorem joined_any (v : Value) (l : List RW.Ed) (a b : Int) (hl : l.length ≤ 1000) (w : World) (hv : RowV 2 RW.edl w v l) :
    Calls Try.prog 14 #[v, .int .i64 a, .int .i64 b] w fun e w' => e = .returned (.bool (RW.jn l a b)) ∧ Below w.heap.size w w' := by
  have hO := hide (of_any v l hl w hv)
  obtain ⟨av, cv, rfl, _, _⟩ := hv
  obtain ⟨n, hn⟩ : ∃ n, n = l.length := ⟨_, rfl⟩
  rw [← hn] at hO ⊢
  obtain ⟨R, hR⟩ : ∃ R, R = RW.rOf l := ⟨_, rfl⟩
  rw [← hR] at hO
  have hq := hide (show RW.jn l a b = decide (R (false, a) = R (false, b)) by rw [hR]; rfl)
  obtain ⟨B, hB⟩ : ∃ B, B = w.heap.size := ⟨_, rfl⟩
  rw [← hB] at hO ⊢
  obtain ⟨q, hqq⟩ : ∃ q, q = RW.jn l a b := ⟨_, rfl⟩
  rw [← hqq] at hq ⊢
  clear hl hn hR hB hqq
  go_enter Try.func14, Try.ntmps14
  go_upto_region 2 with (go_at_call 22; refine hO.out.mono ?_; rintro e w1 ⟨cb, mb, va, vd, rfl, h1, h2⟩; have h1H := hide h1; have h2H := hide h2; clear h1 h2)
  refine wp_region_k (fun _ W => W.heap[cb]? = some (.cells #[.map (some mb), va, vd] 49 (0, 0))) (fun W => Cl0 W B cb mb va vd va vd R (RW.asc (l.map (·.1))) (RW.asc (l.map (·.2))) ∧ Below B w W) [6, 13] (.op 0 (.op 1 (.op 2 (.op 3 (.op 4 (.op 5 (.op 7 (.op 8 (.op 9 (.op 10 (.op 11 (.op 12 (.op 6 (.op 13 (.op 14 (.op 15 .nil)))))))))))))))) (by kernel_rfl) (by kernel_rfl) (by rfl) (by kernel_rfl) h1H.out.row ⟨h1H.out.next (Below.refl _ _).drew, h2H.out.trans (Below.refl _ _).drew⟩ ?_
  refine k_val (.pointer (some ⟨cb, 0, none⟩)) (by apply opN; repeat' (first | apply OpAt.z | apply OpAt.s)) (by rfl) (by rfl) (fun _ W hS => op_mv rfl rfl) ?_
  simp only [Act.put, List.setIfInBounds_toArray, List.set_cons_zero, List.set_cons_succ]
  refine k_val (.pointer (some ⟨cb, 0, none⟩)) (by apply opN; repeat' (first | apply OpAt.z | apply OpAt.s)) (by rfl) (by rfl) (fun _ W hS => op_nc rfl rfl) ?_
  simp only [Act.put, List.setIfInBounds_toArray, List.set_cons_zero, List.set_cons_succ]
  refine k_val (.pointer (some ⟨cb, 0, none⟩)) (by apply opN; repeat' (first | apply OpAt.z | apply OpAt.s)) (by rfl) (by rfl) (fun _ W hS => op_fa_cl (by decide) rfl rfl) ?_
  simp only [Act.put, List.setIfInBounds_toArray, List.set_cons_zero, List.set_cons_succ]
  refine k_val (.agg #[.map (some mb)]) (by apply opN; repeat' (first | apply OpAt.z | apply OpAt.s)) (by rfl) (by rfl) (fun _ W hS => op_load_fo rfl rfl (cellAt hS 0)) ?_
  simp only [Act.put, List.setIfInBounds_toArray, List.set_cons_zero, List.set_cons_succ]
  refine k_val (.int .i64 a) (by apply opN; repeat' (first | apply OpAt.z | apply OpAt.s)) (by rfl) (by rfl) (fun _ W hS => op_mv rfl rfl) ?_
  simp only [Act.put, List.setIfInBounds_toArray, List.set_cons_zero, List.set_cons_succ]
  refine k_val (RW.ndv (false, a)) (by apply opN; repeat' (first | apply OpAt.z | apply OpAt.s)) (by rfl) (by rfl) (fun _ W hS => op_build_na rfl rfl) ?_
  simp only [Act.put, List.setIfInBounds_toArray, List.set_cons_zero, List.set_cons_succ]
  refine k_val (.pointer (some ⟨cb, 0, none⟩)) (by apply opN; repeat' (first | apply OpAt.z | apply OpAt.s)) (by rfl) (by rfl) (fun _ W hS => op_mv rfl rfl) ?_
  simp only [Act.put, List.setIfInBounds_toArray, List.set_cons_zero, List.set_cons_succ]
  refine k_val (.pointer (some ⟨cb, 0, none⟩)) (by apply opN; repeat' (first | apply OpAt.z | apply OpAt.s)) (by rfl) (by rfl) (fun _ W hS => op_nc rfl rfl) ?_
  simp only [Act.put, List.setIfInBounds_toArray, List.set_cons_zero, List.set_cons_succ]
  refine k_val (.pointer (some ⟨cb, 0, none⟩)) (by apply opN; repeat' (first | apply OpAt.z | apply OpAt.s)) (by rfl) (by rfl) (fun _ W hS => op_fa_cl (by decide) rfl rfl) ?_
  simp only [Act.put, List.setIfInBounds_toArray, List.set_cons_zero, List.set_cons_succ]
  refine k_val (.agg #[.map (some mb)]) (by apply opN; repeat' (first | apply OpAt.z | apply OpAt.s)) (by rfl) (by rfl) (fun _ W hS => op_load_fo rfl rfl (cellAt hS 0)) ?_
  simp only [Act.put, List.setIfInBounds_toArray, List.set_cons_zero, List.set_cons_succ]
  refine k_val (.int .i64 b) (by apply opN; repeat' (first | apply OpAt.z | apply OpAt.s)) (by rfl) (by rfl) (fun _ W hS => op_mv rfl rfl) ?_
  simp only [Act.put, List.setIfInBounds_toArray, List.set_cons_zero, List.set_cons_succ]
  refine k_val (RW.ndv (false, b)) (by apply opN; repeat' (first | apply OpAt.z | apply OpAt.s)) (by rfl) (by rfl) (fun _ W hS => op_build_na rfl rfl) ?_
  simp only [Act.put, List.setIfInBounds_toArray, List.set_cons_zero, List.set_cons_succ]
  refine k_step (fun K' u => u = RW.ndv (R (false, a)) ∧ K' = fun W => Cl0 W B cb mb va vd va vd R (RW.asc (l.map (·.1))) (RW.asc (l.map (·.2))) ∧ Below B w W) (by apply opN; repeat' (first | apply OpAt.z | apply OpAt.s)) (by rfl) (by rfl) (by rfl) (fun W hC hK => ?_) ?_
  · refine op_x2 rfl rfl rfl rfl (fun _ _ => rfl) ((find_any hK.1.fo (false, a)).mono ?_)
    rintro e W' ⟨rfl, h4, h5⟩
    have hN := hK.1.forest h4 h5
    exact ⟨_, rfl, hN.row, _, ⟨hN, hK.2.trans (hK.1.bel h5 fun j e => .inr (.inl e))⟩, rfl, rfl⟩
  rintro _ _ ⟨rfl, rfl⟩
  simp only [Act.put, List.setIfInBounds_toArray, List.set_cons_zero, List.set_cons_succ]
  refine k_step (fun K' u => u = RW.ndv (R (false, b)) ∧ K' = fun W => Cl0 W B cb mb va vd va vd R (RW.asc (l.map (·.1))) (RW.asc (l.map (·.2))) ∧ Below B w W) (by apply opN; repeat' (first | apply OpAt.z | apply OpAt.s)) (by rfl) (by rfl) (by rfl) (fun W hC hK => ?_) ?_
  · refine op_x2 rfl rfl rfl rfl (fun _ _ => rfl) ((find_any hK.1.fo (false, b)).mono ?_)
    rintro e W' ⟨rfl, h4, h5⟩
    have hN := hK.1.forest h4 h5
    exact ⟨_, rfl, hN.row, _, ⟨hN, hK.2.trans (hK.1.bel h5 fun j e => .inr (.inl e))⟩, rfl, rfl⟩
  rintro _ _ ⟨rfl, rfl⟩
  simp only [Act.put, List.setIfInBounds_toArray, List.set_cons_zero, List.set_cons_succ]
  refine k_val (.bool (decide (R (false, a) = R (false, b)))) (by apply opN; repeat' (first | apply OpAt.z | apply OpAt.s)) (by rfl) (by rfl) (fun _ W hS => op_eqn rfl rfl rfl) ?_
  simp only [Act.put, List.setIfInBounds_toArray, List.set_cons_zero, List.set_cons_succ]
  refine k_val (.bool (decide (R (false, a) = R (false, b)))) (by apply opN; repeat' (first | apply OpAt.z | apply OpAt.s)) (by rfl) (by rfl) (fun _ W hS => op_asg rfl rfl) ?_
  simp only [Act.put, List.setIfInBounds_toArray, List.set_cons_zero, List.set_cons_succ]
  refine k_nil ?_
  intro W hC hK
  rw [← hq.out]
  have hB2 := hide hK.2
  clear hC hK h1H h2H
  go_wp2
  go_ret
  exact ⟨rfl, hB2.out⟩
abbrev intK : Int → Value := fun x => .int .i64 x
theorem int_keyG : KM.Key Try.prog 3 intK := KM.int_key Try.underlying3
theorem mk_mapB (W : World) : (Instr.makeMap 57 none).run Try.prog W = .ok (.map (some W.heap.size)) (W.alloc (.map #[] 0)) := rfl
namespace RW
/-- the keys of L are the numbers of A, each once -/
def KeysOf (L : List (Int × Value)) (A : List Int) : Prop := ∀ x, x ∈ L.map (·.1) ↔ x ∈ A
theorem keys_put {L : List (Int × Value)} {A : List Int} (h : KeysOf L A) (x : Int) (v : Value) : KeysOf (KM.put x v L) (A ++ [x]) := by
  intro y
  rw [KM.keys_put, List.mem_append, List.mem_singleton]
  cases hg : KM.get x L with
  | none =>
    rw [Option.isSome_none, if_neg Bool.false_ne_true, List.mem_append, List.mem_singleton, h y]
  | some u =>
    rw [Option.isSome_some, if_pos rfl, h y]
    constructor
    · exact .inl
    · rintro (h1 | rfl)
      · exact h1
      · exact (h y).1 (List.mem_map.2 ⟨_, KM.get_mem hg, rfl⟩)
theorem asc_nodup {l : List Int} (h : l.Pairwise (· < ·)) : l.Nodup := h.imp (fun h => by omega)
theorem keys_len {L : List (Int × Value)} {A : List Int} (h : KeysOf L A) (hn : (L.map (·.1)).Nodup) : L.length = (asc A).length := by
  have := ((List.perm_ext_iff_of_nodup hn (asc_nodup (asc_up A))).2 fun x => by rw [h x, mem_asc]).length_eq
  rwa [List.length_map] at this
end RW
set_option maxRecDepth 10000 in
set_option maxHeartbeats 2000000 in
theorem degree_any (v : Value) (l : List RW.Ed) (d : Int) (hl : l.length ≤ 1000) (w : World) (hv : RowV 2 RW.edl w v l) :
    Calls Try.prog 19 #[v, .int .i64 d] w fun e w' => e = .returned (.int .i64 (RW.dgr l d : Int)) ∧ Below w.heap.size w w' := by
  obtain ⟨av, cv, rfl, _, hav⟩ := hv
  obtain ⟨m, hm⟩ : ∃ m, m = l.length := ⟨_, rfl⟩
  have hmH := hide hm
  have havH := hide hav
  rw [← hm] at hl ⊢
  obtain ⟨B, hB⟩ : ∃ B, B = w.heap.size := ⟨_, rfl⟩
  have hBH := hide hB
  have hmk := mk_mapB
  clear hm hav hB
  go_enter Try.func19, Try.ntmps19
  go_upto_region 2 with fail
  rw [← hBH.out]
  refine gen_w (fun W => KM.OwnM intK W B [] ∧ Below B w W) ?_ ?_
  · rw [hBH.out]
    exact ⟨KM.OwnM.made w, alloc_bel (Below.refl _ _) (Nat.le_refl _) _⟩
  rintro w2 ⟨h1, h2⟩
  have h1H := hide h1
  have h2H := hide h2
  clear h1 h2 hmk
  go_wp2
  go_loopw [11] (fun i wr => ∃ j : Nat, i = .int .i64 j ∧ j ≤ m ∧ Hid (∃ L, KM.OwnM intK wr B L ∧ RW.KeysOf L (((l.take j).filter fun e => decide (e.2 = d)).map (·.1)) ∧ Below B w wr)) (fun i _ => m - (intOf i).toNat)
  case atStart => exact ⟨0, rfl, Nat.zero_le _, [], h1H.out, (fun x => by simp), h2H.out⟩
  case round =>
    obtain ⟨j, rfl, hj, hQ⟩ := hrel
    clear h1H h2H
    obtain ⟨wo, hwo⟩ : ∃ wo, wo = wr := ⟨_, rfl⟩
    subst hwo
    obtain ⟨L, hI0, hK0, hBw⟩ := hQ.out
    have hI := hide hI0
    have hK := hide hK0
    have hBwH := hide hBw
    clear hQ hI0 hK0 hBw
    by_cases hjm : j < m
    · obtain ⟨⟨ac, dv⟩, hx⟩ : ∃ x, l[j]? = some x := ⟨_, List.getElem?_eq_getElem (by rw [← hmH.out]; exact hjm)⟩
      obtain ⟨bq, oq, rfl, hbq, hcq⟩ := havH.out.resolve_left (by rintro rfl; simp at hx)
      have hcell : ∀ i u, (RW.edl (ac, dv))[i]? = some u → wo.cell? ⟨bq, oq + j * 2 + i, none⟩ = some u := fun i u hu => (World.cell?_of_block (a := ⟨bq, oq + j * 2 + i, none⟩) (hBwH.out.block _ (by rw [hBH.out]; exact hbq))).trans (hcq j (ac, dv) hx i u hu)
      have e0 : wo.cell? ⟨bq, oq + j * 2, none⟩ = some (.int .i64 ac) := hcell 0 _ rfl
      have e1 : wo.cell? ⟨bq, oq + j * 2 + 1, none⟩ = some (.int .i64 dv) := hcell 1 _ rfl
      have hfs := hide (RW.filter_snoc (fun e : RW.Ed => decide (e.2 = d)) l j (ac, dv) hx)
      clear hbq hcq hx hcell
      go_upto_region 5 with fail
      refine gen_w (fun W => EdA W wo.heap.size (ac, dv) ∧ KM.OwnM intK W B L ∧ Below B w W) ⟨alloc_at1 _ _, hI.out.keep (Below.heap_alloc _ _ _ hI.out.lt), hBwH.out.alloc (Nat.le_of_lt hI.out.lt) _⟩ ?_
      obtain ⟨eb, heb⟩ : ∃ e, e = wo.heap.size := ⟨_, rfl⟩
      rw [← heb]
      clear e0 e1 heb hI hBwH
      rintro w5 ⟨hE0, hI0, hB0⟩
      have k0 : w5.cell? ⟨eb, 0, none⟩ = some (.int .i64 ac) := hE0.c0
      have k1 : w5.cell? ⟨eb, 1, none⟩ = some (.int .i64 dv) := hE0.c1
      by_cases hd : dv = d
      · obtain ⟨w6, hup, hO6, f1, f2, f3, f4, f5⟩ := hI0.update int_keyG Try.underlying57 ac (.bool true)
        have hup' : (Instr.mapUpdate 57 (.map (some B)) (.int .i64 ac) (.bool true)).run Try.prog w5 = .ok () w6 := hup
        have hO6H := hide hO6
        have hB6 := hide (hB0.trans ((chg_upd f1 f2 f3 f4 f5).below (fun k hk => Nat.le_of_eq hk.symm) (Nat.le_of_lt hI0.lt)))
        have hK6 := hide (RW.keys_put hK.out ac (.bool true))
        clear hE0 hI0 hB0 hup hO6 f1 f2 f3 f4 f5
        go_wp2
        go_roundw
        case rel => exact ⟨j + 1, by go_num, by omega, _, hO6H.out, by rw [hfs.out, if_pos (decide_eq_true hd), List.map_append]; exact hK6.out, hB6.out⟩
        case measure => simp [intOf]; omega
      · have hI6 := hide hI0
        have hB6 := hide hB0
        clear hE0 hI0 hB0
        go_wp2
        go_roundw
        case rel => exact ⟨j + 1, by go_num, by omega, _, hI6.out, by rw [hfs.out, if_neg (by simpa using hd), List.append_nil]; exact hK.out, hB6.out⟩
        case measure => simp [intOf]; omega
    · obtain rfl : j = m := by omega
      have htl : l.take j = l := List.take_of_length_le (by rw [← hmH.out]; exact Nat.le_refl _)
      rw [htl] at hK
      have hln := hide (show L.length = RW.dgr l d from RW.keys_len hK.out hI.out.nodup)
      have hlen := hI.out.made_len (P := Try.prog) 3 Try.underlying57
      have hlen' : (Builtin.len_ #[57] 3 #[.map (some B)]).run Try.prog wo = .ok (.int .i64 (RW.dgr l d : Int)) wo := by rw [← hln.out]; exact hlen
      clear hlen htl
      go_wp2
      go_ret
      exact ⟨rfl, hBH.out ▸ hBwH.out⟩
end Go.Proofs.Ytbmlfejlmedmgaa

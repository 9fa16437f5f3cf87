/-
  Package royaltylaw23: pick, size, few, content; package royaltyref20: Same.
-/
import Derived.Test.YtllbphanfahkkaaGreatDoorJn9
namespace Go.Proofs.YtllbphanfahkkaaGreatDoor
open Go.RowKit RG
namespace RW
def pickI (c n : Int) : Int := (if c < 0 then -(c + 1) else c) % n
theorem pickI_bd (c n : Int) (h : 1 ≤ n) : 0 ≤ pickI c n ∧ pickI c n < n := ⟨Int.emod_nonneg _ (by omega), Int.emod_lt_of_pos _ (by omega)⟩
/-- a string cut to 100 bytes -/
def cut1 (s : ByteArray) : ByteArray := s.extract 0 (min s.size 100)
theorem cut1_size (s : ByteArray) : (cut1 s).size ≤ 100 := by
  unfold cut1
  rw [ByteArray.size_extract]
  omega
def fewL (l : List ByteArray) : List ByteArray := (l.take 6).map cut1
theorem fewL_len (l : List ByteArray) : (fewL l).length ≤ 6 := by
  unfold fewL
  rw [List.length_map, List.length_take]
  omega
theorem fewL_size (l : List ByteArray) : ∀ s ∈ fewL l, s.size ≤ 100 := by
  intro s hs
  obtain ⟨r, _, rfl⟩ := List.mem_map.1 hs
  exact cut1_size r
end RW
theorem pick_any (c n : Int) (hc : -9223372036854775808 ≤ c) (hc2 : c ≤ 9223372036854775807) (h : 1 ≤ n) (hn : n ≤ 9223372036854775807) (w : World) : Calls Tryz.prog 15 #[.int .i64 c, .int .i64 n] w fun e w' => e = .returned (.int .i64 (RW.pickI c n)) ∧ w = w' := by
  by_cases h0 : c < 0
  · have h1 : 0 ≤ -(c + 1) := by omega
    have e : RW.pickI c n = -(c + 1) % n := by unfold RW.pickI; rw [if_pos h0]
    have eH := hide e
    clear e
    go_enter Tryz.func15, Tryz.ntmps15
    go_wp2
    go_ret
    refine ⟨?_, rfl⟩
    rw [eH.out, ← Int.tmod_eq_emod_of_nonneg h1, Int.neg_tmod]
    rfl
  · have e : RW.pickI c n = c % n := by unfold RW.pickI; rw [if_neg h0]
    have eH := hide e
    clear e
    go_enter Tryz.func15, Tryz.ntmps15
    go_wp2
    go_ret
    exact ⟨by rw [eH.out]; rfl, rfl⟩
theorem lsize_any (c : Int) (hc : -9223372036854775808 ≤ c) (hc2 : c ≤ 9223372036854775807) (z : Nat) (hz : 1 + RW.pickI c 1500 = (z : Int)) (w : World) : Calls Tryz.prog 16 #[.int .i64 c] w fun e w' => e = .returned (.int .i64 (z : Int)) ∧ w = w' := by
  have hP := hide (pick_any c 1500 hc hc2 (by decide) (by decide) w)
  obtain ⟨b1, b2⟩ := RW.pickI_bd c 1500 (by decide)
  have hzH := hide hz
  clear hz
  go_enter Tryz.func16, Tryz.ntmps16
  go_wp2_with (go_at_call 15; refine hP.out.mono ?_; rintro e w1 ⟨rfl, rfl⟩)
  go_ret
  exact ⟨by rw [← hzH.out]; rfl, rfl⟩
theorem content_any (B b n db vb : Nat) (pv : Value) (S : RW.Dk) (w : World) (h : DiskAt w B b n db vb pv S) : Calls Tryz.prog 23 #[.pointer (some ⟨b, 0, none⟩)] w fun e w' => e = .returned (.string (S.read n 0 n).1) ∧ w = w' := by
  have hRd := hide (read_any B b n db vb pv S 0 (n : Int) w h)
  have hSz := hide (size_any w h)
  clear h
  go_enter Tryz.func23, Tryz.ntmps23
  go_wp2_with (first
    | (go_at_call 56; refine hSz.out.mono ?_; rintro e w' ⟨rfl, rfl⟩)
    | (go_at_call 57; refine hRd.out.mono ?_; rintro e w' ⟨rfl, rfl⟩))
  go_ret
  exact ⟨rfl, rfl⟩
section
variable {ev : Operand → Value} {o : Oper} {x y : Operand} {w : World}
theorem op_idx_s {b ao i n c : Nat} (ho : o.op = .indexAddr 22 x y) (hx : ev x = .slice (some ⟨b, ao, none⟩) n c) (hy : ev y = .int .i64 i) (hi : i < n) : (execOp ev o).run Tryz.prog w = .ok (.value (.pointer (some ⟨b, ao + i, none⟩))) w := by
  unfold execOp
  rw [ho]
  simp only [hx, hy]
  go_simp
theorem op_min100 {k : Nat} (ho : o.op = .call { callee := .builtin .min, args := #[x, y], argTypes := #[3, 3] }) (hx : ev x = .int .i64 (k : Int)) (hy : ev y = .int .i64 100) : (execOp ev o).run Tryz.prog w = .ok (.value (.int .i64 ((min k 100 : Nat) : Int))) w := by
  unfold execOp
  rw [ho]
  simp only [hx, hy]
  by_cases h : k < 100
  · have e : min (k : Int) 100 = (k : Int) := by omega
    rw [Nat.min_eq_left (by omega)]
    go_simp
    try exact e
  · have e : min (k : Int) 100 = 100 := by omega
    rw [Nat.min_eq_right (by omega)]
    go_simp
    try exact e
theorem op_sl0 {s : ByteArray} {j : Nat} (ho : o.op = .slice 9 x none (some y) none) (hx : ev x = .string s) (hy : ev y = .int .i64 (j : Int)) (hj : j ≤ s.size) : (execOp ev o).run Tryz.prog w = .ok (.value (.string (s.extract 0 j))) w := by
  have h3 : (j : Int) ≤ (s.size : Int) := by omega
  unfold execOp
  rw [ho]
  simp only [hx, hy, Option.map_some, Option.map_none]
  go_simp
theorem op_bs1 {s : ByteArray} (ho : o.op = .buildSlice 22 1 #[(0, x)]) (hx : ev x = .string s) : (execOp ev o).run Tryz.prog w = .ok (.value (.slice (some ⟨w.heap.size, 0, none⟩) 1 1)) (w.alloc (.cells #[.string s] 9)) := by
  unfold execOp
  rw [ho]
  go_simp
theorem op_apps {v s v' : Value} {w' : World} (ho : o.op = .call { callee := .builtin .append, args := #[x, y], argTypes := #[22, 22] }) (hx : ev x = v) (hy : ev y = s) (hr : (Builtin.append_ #[22, 22] o.type #[v, s]).run Tryz.prog w = .ok v' w') :
    (execOp ev o).run Tryz.prog w = .ok (.value v') w' := by
  unfold execOp
  simp only [ho, resolve, invoke, builtin, Sem.run_bind, Sem.run_pure, Result.andThen_ok, List.map_toArray, List.map_cons, List.map_nil, hx, hy, hr]
theorem op_neqs {a b : ByteArray} (ho : o.op = .binOp .neq 9 x y 9) (hx : ev x = .string a) (hy : ev y = .string b) {r : Bool} (h : r = !decide (a = b)) : (execOp ev o).run Tryz.prog w = .ok (.value (.bool r)) w := by
  have h2 : (a.toList == b.toList) = decide (a = b) := by
    by_cases e : a = b
    · subst e
      simp
    · rw [decide_eq_false e, beq_eq_false_iff_ne, ByteArray.toList_eq, ByteArray.toList_eq]
      exact fun e' => e (RW.bytes_eq e')
  subst h
  unfold execOp
  rw [ho]
  simp only [hx, hy]
  go_simp
end
theorem strR_cell {W W' : World} {v : Value} {l : List ByteArray} {j : Nat} {r : ByteArray} (h : StrR W v l) (hr : l[j]? = some r) : ∃ g o c, v = .slice (some ⟨g, o, none⟩) l.length c ∧ ∀ W', Below W.heap.size W W' → W'.cell? ⟨g, o + j, none⟩ = some (.string r) := by
  obtain ⟨a, c, rfl, _, hc⟩ := h
  rcases hc with rfl | ⟨g, o, rfl, hb, hc⟩
  · simp at hr
  · refine ⟨g, o, c, rfl, fun W' hB => ?_⟩
    have e := hc j r hr 0 _ rfl
    rw [Nat.mul_one, Nat.add_zero] at e
    exact (World.cell?_of_block (a := ⟨g, o + j, none⟩) (hB.block _ hb)).trans e
set_option maxRecDepth 100000 in
set_option maxHeartbeats 4000000 in
theorem few_any (v : Value) (l : List ByteArray) (w : World) (hl : StrR w v l) (hll : l.length ≤ 9223372036854775807) :
    Calls Tryz.prog 12 #[v] w fun e w' => ∃ u, e = .returned u ∧ StrsOwn w' w.heap.size u (RW.fewL l) ∧ Below w.heap.size w w' := by
  have hlA := hide hl
  obtain ⟨la, lc, rfl, _, _⟩ := id hl
  obtain ⟨B, hB⟩ : ∃ B, B = w.heap.size := ⟨_, rfl⟩
  have hBH := hide hB
  obtain ⟨n, hn⟩ : ∃ n, n = l.length := ⟨_, rfl⟩
  have hnH := hide hn
  rw [← hn] at hlA hll ⊢
  rw [← hB]
  clear hl hB hn
  go_enter Tryz.func12, Tryz.ntmps12
  go_wp2
  go_loopw [3, 4] (fun u i wr => ∃ (j : Nat), i = .int .i64 j ∧ j ≤ n ∧ j ≤ 6 ∧ Hid (StrsOwn wr B u ((l.take j).map RW.cut1) ∧ Below B w wr)) (fun _ i _ => 6 - (intOf i).toNat)
  case atStart => exact ⟨0, rfl, Nat.zero_le _, Nat.zero_le _, ⟨⟨rfl, .inl ⟨rfl, rfl⟩⟩, by rw [hBH.out]; exact Below.refl _ _⟩⟩
  case round =>
    obtain ⟨j, rfl, hj, hj6, hQ⟩ := hrel
    obtain ⟨wo, hwo⟩ : ∃ wo, wo = wr := ⟨_, rfl⟩
    subst hwo
    by_cases hjn : j < n
    · by_cases hj5 : j < 6
      · obtain ⟨r, hr⟩ : ∃ r, l[j]? = some r := ⟨_, List.getElem?_eq_getElem (by rw [← hnH.out]; exact hjn)⟩
        obtain ⟨g0, o0, lc', e', hcell⟩ := strR_cell (W' := wo) (by have h := hlA.out; rw [hnH.out] at h; exact h) hr
        cases e'
        have hcellH := hide (fun W (hW : Below B w W) => hcell W (by rw [← hBH.out]; exact hW))
        have htk := hide (show (l.take (j + 1)).map RW.cut1 = (l.take j).map RW.cut1 ++ [RW.cut1 r] by rw [RW.take_snocB hr, List.map_append]; rfl)
        obtain ⟨ua, uc, eu⟩ := own_shape hQ.out.1
        have hlen : ((l.take j).map RW.cut1).length = j := by rw [List.length_map, List.length_take, ← hnH.out]; omega
        rw [hlen] at eu
        subst eu
        have hmin : min r.size 100 ≤ r.size := Nat.min_le_left _ _
        have hlenH := hide hlen
        clear hr hcell hlen
        go_upto_region 5 with fail
        refine wp_region_k (fun _ W => Below B w W) (fun W => StrsOwn W B (.slice ua j uc) ((l.take j).map RW.cut1)) [12, 13] (.op 0 (.op 1 (.op 2 (.op 3 (.op 4 (.op 5 (.op 6 (.op 7 (.op 8 (.op 9 (.op 10 (.op 11 (.op 12 (.op 13 (.op 14 .nil))))))))))))))) (by kernel_rfl) (by kernel_rfl) (by rfl) (by kernel_rfl) hQ.out.2.drew (own_keep hQ.out.1 fun _ _ => rfl) ?_
        refine k_val (.slice ua j uc) (by apply opN; repeat' (first | apply OpAt.z | apply OpAt.s)) (by rfl) (by rfl) (fun _ W hS => op_mv rfl rfl) ?_
        simp only [Act.put, List.setIfInBounds_toArray, List.set_cons_zero, List.set_cons_succ]
        refine k_val (.slice (some ⟨g0, o0, none⟩) n lc) (by apply opN; repeat' (first | apply OpAt.z | apply OpAt.s)) (by rfl) (by rfl) (fun _ W hS => op_mv rfl rfl) ?_
        simp only [Act.put, List.setIfInBounds_toArray, List.set_cons_zero, List.set_cons_succ]
        refine k_val (.int .i64 (j : Int)) (by apply opN; repeat' (first | apply OpAt.z | apply OpAt.s)) (by rfl) (by rfl) (fun _ W hS => op_mv rfl rfl) ?_
        simp only [Act.put, List.setIfInBounds_toArray, List.set_cons_zero, List.set_cons_succ]
        refine k_val (.pointer (some ⟨g0, o0 + j, none⟩)) (by apply opN; repeat' (first | apply OpAt.z | apply OpAt.s)) (by rfl) (by rfl) (fun _ W hS => op_idx_s rfl rfl rfl hjn) ?_
        simp only [Act.put, List.setIfInBounds_toArray, List.set_cons_zero, List.set_cons_succ]
        refine k_val (.string r) (by apply opN; repeat' (first | apply OpAt.z | apply OpAt.s)) (by rfl) (by rfl) (fun _ W hS => op_ld rfl rfl (str_ld (hcellH.out W hS))) ?_
        simp only [Act.put, List.setIfInBounds_toArray, List.set_cons_zero, List.set_cons_succ]
        refine k_val (.slice (some ⟨g0, o0, none⟩) n lc) (by apply opN; repeat' (first | apply OpAt.z | apply OpAt.s)) (by rfl) (by rfl) (fun _ W hS => op_mv rfl rfl) ?_
        simp only [Act.put, List.setIfInBounds_toArray, List.set_cons_zero, List.set_cons_succ]
        refine k_val (.int .i64 (j : Int)) (by apply opN; repeat' (first | apply OpAt.z | apply OpAt.s)) (by rfl) (by rfl) (fun _ W hS => op_mv rfl rfl) ?_
        simp only [Act.put, List.setIfInBounds_toArray, List.set_cons_zero, List.set_cons_succ]
        refine k_val (.pointer (some ⟨g0, o0 + j, none⟩)) (by apply opN; repeat' (first | apply OpAt.z | apply OpAt.s)) (by rfl) (by rfl) (fun _ W hS => op_idx_s rfl rfl rfl hjn) ?_
        simp only [Act.put, List.setIfInBounds_toArray, List.set_cons_zero, List.set_cons_succ]
        refine k_val (.string r) (by apply opN; repeat' (first | apply OpAt.z | apply OpAt.s)) (by rfl) (by rfl) (fun _ W hS => op_ld rfl rfl (str_ld (hcellH.out W hS))) ?_
        simp only [Act.put, List.setIfInBounds_toArray, List.set_cons_zero, List.set_cons_succ]
        refine k_val (.int .i64 (r.size : Int)) (by apply opN; repeat' (first | apply OpAt.z | apply OpAt.s)) (by rfl) (by rfl) (fun _ W hS => op_lens rfl rfl) ?_
        simp only [Act.put, List.setIfInBounds_toArray, List.set_cons_zero, List.set_cons_succ]
        refine k_val (.int .i64 ((min r.size 100 : Nat) : Int)) (by apply opN; repeat' (first | apply OpAt.z | apply OpAt.s)) (by rfl) (by rfl) (fun _ W hS => op_min100 rfl rfl rfl) ?_
        simp only [Act.put, List.setIfInBounds_toArray, List.set_cons_zero, List.set_cons_succ]
        refine k_val (.string (RW.cut1 r)) (by apply opN; repeat' (first | apply OpAt.z | apply OpAt.s)) (by rfl) (by rfl) (fun _ W hS => op_sl0 rfl rfl rfl hmin) ?_
        simp only [Act.put, List.setIfInBounds_toArray, List.set_cons_zero, List.set_cons_succ]
        refine k_step (fun K' u => ∃ g, u = .slice (some ⟨g, 0, none⟩) 1 1 ∧ K' = fun W => ∃ W0, g = W0.heap.size ∧ W = W0.alloc (.cells #[.string (RW.cut1 r)] 9) ∧ (fun W => StrsOwn W B (.slice ua j uc) ((l.take j).map RW.cut1) ∧ Below B w W) W0) (by apply opN; repeat' (first | apply OpAt.z | apply OpAt.s)) (by rfl) (by rfl) (by rfl) (fun W hCW hK => ?_) ?_
        · exact xup_val (op_bs1 rfl rfl) ⟨alloc_bel hCW (Nat.le_of_eq hBH.out) _, _, ⟨W, rfl, rfl, hK, hCW⟩, W.heap.size, rfl, rfl⟩
        rintro _ _ ⟨g, rfl, rfl⟩
        simp only [Act.put, List.setIfInBounds_toArray, List.set_cons_zero, List.set_cons_succ]
        refine k_step (fun K' u => K' = fun W => StrsOwn W B u ((l.take j).map RW.cut1 ++ [RW.cut1 r]) ∧ Below B w W) (by apply opN; repeat' (first | apply OpAt.z | apply OpAt.s)) (by rfl) (by rfl) (by rfl) (fun W hCW hK => ?_) ?_
        · obtain ⟨W0, rfl, rfl, hK1, hK2⟩ := hK
          have hBW : B ≤ W0.heap.size := by rw [hBH.out]; exact hK2.size
          obtain ⟨v', W', hrun, ho', hc', hu'⟩ := run_app_str (RW.cut1 r) hK1 hBW (by rw [hlenH.out]; omega)
          have hB' := hK2.trans (hc'.belowJ (fun k hk => (own_blk hK1 hk).1) hBW)
          exact xup_val (op_apps rfl rfl rfl hrun) ⟨hB', _, ⟨ho', hB'⟩, rfl⟩
        rintro _ v' rfl
        simp only [Act.put, List.setIfInBounds_toArray, List.set_cons_zero, List.set_cons_succ]
        refine k_val (v') (by apply opN; repeat' (first | apply OpAt.z | apply OpAt.s)) (by rfl) (by rfl) (fun _ W hS => op_asg rfl rfl) ?_
        simp only [Act.put, List.setIfInBounds_toArray, List.set_cons_zero, List.set_cons_succ]
        refine k_nil ?_
        intro W hCW hK
        go_wp2
        go_roundw
        case rel => exact ⟨j + 1, by go_num, by omega, by omega, ⟨by rw [htk.out]; exact hK.1, hK.2⟩⟩
        case measure => simp [intOf]; omega
      · obtain rfl : j = 6 := by omega
        have h6 : ¬ ((6 : Nat) : Int) < 6 := by decide
        go_wp2
        go_ret
        exact ⟨_, rfl, hQ.out.1, hQ.out.2⟩
    · obtain rfl : n = j := by omega
      have hQ2 := hide (show StrsOwn wo B _ (RW.fewL l) ∧ Below B w wo from by
        have h := hQ.out
        have e : l.take n = l.take 6 := by rw [hnH.out, List.take_length, List.take_of_length_le (by rw [← hnH.out]; exact hj6)]
        rw [e] at h
        exact h)
      clear hQ
      go_wp2
      go_ret
      exact ⟨_, rfl, hQ2.out.1, hQ2.out.2⟩
set_option maxRecDepth 100000 in
set_option maxHeartbeats 4000000 in
theorem same20_any (v v2 : Value) (l m : List ByteArray) (w : World) (hl : StrR w v l) (hm : StrR w v2 m) (hll : l.length ≤ 9223372036854775807) (hmm : m.length ≤ 9223372036854775807) :
    Calls Tryz.prog 19 #[v, v2] w fun e w' => e = .returned (.bool (decide (l = m))) ∧ Below w.heap.size w w' := by
  have hlA := hide hl
  have hmA := hide hm
  obtain ⟨la, lc, rfl, _, _⟩ := id hl
  obtain ⟨ma, mc, rfl, _, _⟩ := id hm
  obtain ⟨n, hn⟩ : ∃ n, n = l.length := ⟨_, rfl⟩
  obtain ⟨q, hq⟩ : ∃ n, n = m.length := ⟨_, rfl⟩
  have hnH := hide hn
  have hqH := hide hq
  rw [← hn] at hlA hll ⊢
  rw [← hq] at hmA hmm ⊢
  clear hl hm hn hq
  by_cases hnq : n = q
  · subst hnq
    go_enter Tryz.func19, Tryz.ntmps19
    go_wp2
    go_loopw [5] (fun i wr => ∃ (j : Nat), i = .int .i64 j ∧ j ≤ n ∧ Hid (l.take j = m.take j ∧ Below w.heap.size w wr)) (fun i _ => n - (intOf i).toNat)
    case atStart => exact ⟨0, rfl, Nat.zero_le _, ⟨rfl, Below.refl _ _⟩⟩
    case round =>
      obtain ⟨j, rfl, hj, hQ⟩ := hrel
      obtain ⟨wo, hwo⟩ : ∃ wo, wo = wr := ⟨_, rfl⟩
      subst hwo
      by_cases hjn : j < n
      · obtain ⟨r, hr⟩ : ∃ r, l[j]? = some r := ⟨_, List.getElem?_eq_getElem (by rw [← hnH.out]; exact hjn)⟩
        obtain ⟨r2, hr2⟩ : ∃ r, m[j]? = some r := ⟨_, List.getElem?_eq_getElem (by rw [← hqH.out]; exact hjn)⟩
        obtain ⟨g0, o0, lc', e', hcell⟩ := strR_cell (W' := wo) (by have h := hlA.out; rw [hnH.out] at h; exact h) hr
        cases e'
        obtain ⟨g1, o1, mc', e', hcell2⟩ := strR_cell (W' := wo) (by have h := hmA.out; rw [hqH.out] at h; exact h) hr2
        cases e'
        have hcellH := hide hcell
        have hcell2H := hide hcell2
        have htk := hide (show l.take (j + 1) = l.take j ++ [r] ∧ m.take (j + 1) = m.take j ++ [r2] from ⟨RW.take_snocB hr, RW.take_snocB hr2⟩)
        have hne := hide (show r ≠ r2 → decide (l = m) = false from fun h => decide_eq_false (by
          rintro rfl
          rw [hr] at hr2
          cases hr2
          exact h rfl))
        clear hr hr2 hcell hcell2
        go_upto_region 6 with fail
        refine wp_region_k (fun _ W => Below w.heap.size w W) (fun _ => True) [] (.op 0 (.op 1 (.op 2 (.op 3 (.op 4 (.op 5 (.op 6 (.op 7 (.op 8 .nil))))))))) (by kernel_rfl) (by kernel_rfl) (by rfl) (by kernel_rfl) hQ.out.2.drew trivial ?_
        refine k_val (.slice (some ⟨g0, o0, none⟩) n lc) (by apply opN; repeat' (first | apply OpAt.z | apply OpAt.s)) (by rfl) (by rfl) (fun _ W hS => op_mv rfl rfl) ?_
        simp only [Act.put, List.setIfInBounds_toArray, List.set_cons_zero, List.set_cons_succ]
        refine k_val (.int .i64 (j : Int)) (by apply opN; repeat' (first | apply OpAt.z | apply OpAt.s)) (by rfl) (by rfl) (fun _ W hS => op_mv rfl rfl) ?_
        simp only [Act.put, List.setIfInBounds_toArray, List.set_cons_zero, List.set_cons_succ]
        refine k_val (.pointer (some ⟨g0, o0 + j, none⟩)) (by apply opN; repeat' (first | apply OpAt.z | apply OpAt.s)) (by rfl) (by rfl) (fun _ W hS => op_idx_s rfl rfl rfl hjn) ?_
        simp only [Act.put, List.setIfInBounds_toArray, List.set_cons_zero, List.set_cons_succ]
        refine k_val (.string r) (by apply opN; repeat' (first | apply OpAt.z | apply OpAt.s)) (by rfl) (by rfl) (fun _ W hS => op_ld rfl rfl (str_ld (hcellH.out W hS))) ?_
        simp only [Act.put, List.setIfInBounds_toArray, List.set_cons_zero, List.set_cons_succ]
        refine k_val (.slice (some ⟨g1, o1, none⟩) n mc) (by apply opN; repeat' (first | apply OpAt.z | apply OpAt.s)) (by rfl) (by rfl) (fun _ W hS => op_mv rfl rfl) ?_
        simp only [Act.put, List.setIfInBounds_toArray, List.set_cons_zero, List.set_cons_succ]
        refine k_val (.int .i64 (j : Int)) (by apply opN; repeat' (first | apply OpAt.z | apply OpAt.s)) (by rfl) (by rfl) (fun _ W hS => op_mv rfl rfl) ?_
        simp only [Act.put, List.setIfInBounds_toArray, List.set_cons_zero, List.set_cons_succ]
        refine k_val (.pointer (some ⟨g1, o1 + j, none⟩)) (by apply opN; repeat' (first | apply OpAt.z | apply OpAt.s)) (by rfl) (by rfl) (fun _ W hS => op_idx_s rfl rfl rfl hjn) ?_
        simp only [Act.put, List.setIfInBounds_toArray, List.set_cons_zero, List.set_cons_succ]
        refine k_val (.string r2) (by apply opN; repeat' (first | apply OpAt.z | apply OpAt.s)) (by rfl) (by rfl) (fun _ W hS => op_ld rfl rfl (str_ld (hcell2H.out W hS))) ?_
        simp only [Act.put, List.setIfInBounds_toArray, List.set_cons_zero, List.set_cons_succ]
        refine k_val (.bool (!decide (r = r2))) (by apply opN; repeat' (first | apply OpAt.z | apply OpAt.s)) (by rfl) (by rfl) (fun _ W hS => op_neqs rfl rfl rfl rfl) ?_
        simp only [Act.put, List.setIfInBounds_toArray, List.set_cons_zero, List.set_cons_succ]
        refine k_nil ?_
        intro W hCW _
        by_cases hrr : r = r2
        · have hd : (!decide (r = r2)) = false := by rw [decide_eq_true hrr]; rfl
          have hrrH := hide hrr
          have hBH := hide (hCW : Below w.heap.size w W)
          rw [hd]
          clear hrr hd
          go_wp2
          go_roundw
          case rel => exact ⟨j + 1, by go_num, by omega, ⟨by rw [htk.out.1, htk.out.2, hQ.out.1, hrrH.out], hBH.out⟩⟩
          case measure => simp [intOf]; omega
        · have hd : (!decide (r = r2)) = true := by rw [decide_eq_false hrr]; rfl
          have hrrH := hide hrr
          have hBH := hide (hCW : Below w.heap.size w W)
          rw [hd]
          clear hrr hd
          go_wp2
          go_ret
          exact ⟨by rw [hne.out hrrH.out]; rfl, hBH.out⟩
      · obtain rfl : n = j := by omega
        have hQ2 := hide (show decide (l = m) = true ∧ Below w.heap.size w wo from by
          have h := hQ.out
          rw [hnH.out, List.take_length, ← hnH.out, hqH.out, List.take_length] at h
          exact ⟨decide_eq_true h.1, h.2⟩)
        clear hQ
        go_wp2
        go_ret
        exact ⟨by rw [hQ2.out.1]; rfl, hQ2.out.2⟩
  · have hd := hide (show decide (l = m) = false from decide_eq_false fun e => hnq (by rw [hnH.out, hqH.out, e]))
    go_enter Tryz.func19, Tryz.ntmps19
    go_wp2
    go_ret
    exact ⟨by rw [hd.out]; rfl, Below.refl _ _⟩
end Go.Proofs.YtllbphanfahkkaaGreatDoor

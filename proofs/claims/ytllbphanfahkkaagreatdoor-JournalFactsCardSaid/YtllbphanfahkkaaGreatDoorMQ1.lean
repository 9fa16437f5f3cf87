/-
  Package royaltylaw23: pick, size, few, content; package royaltyref20: Same.
-/
import Derived.Test.YtllbphanfahkkaaGreatDoorMQ0
import Derived.Test.YtllbphanfahkkaaGreatDoorCards
import Derived.Test.YtllbphanfahkkaaGreatDoorTie
import Derived.WalkKit
import Derived.ProofKit
import Derived.OpenShut
import Derived.Deep.DeepHandedRow
import Derived.Deep.DeepWitnessRowRef
import Derived.Lib.LaidTab
import Derived.Lib.LaidIn
import Derived.Stop.LaidErr
namespace Go.Proofs.YtllbphanfahkkaaGreatDoor
open Go.RowKit RG
namespace RW
def pickI (c n : Int) : Int := (if c < 0 then -(c + 1) else c) % n
theorem pickI_bd (c n : Int) (h : 1 ≤ n) : 0 ≤ pickI c n ∧ pickI c n < n := ⟨Int.emod_nonneg _ (by omega), Int.emod_lt_of_pos _ (by omega)⟩
/-- a string cut to 100 bytes -/
def cut1 (s : ByteArray) : ByteArray := s.extract 0 (min s.size 100)
theorem cut1_size (s : ByteArray) : (cut1 s).size ≤ 100 := by
  unfold cut1
  rw [ByteArray.size_extract]
  omega
def fewL (l : List ByteArray) : List ByteArray := (l.take 6).map cut1
theorem fewL_len (l : List ByteArray) : (fewL l).length ≤ 6 := by
  unfold fewL
  rw [List.length_map, List.length_take]
  omega
theorem fewL_size (l : List ByteArray) : ∀ s ∈ fewL l, s.size ≤ 100 := by
  intro s hs
  obtain ⟨r, _, rfl⟩ := List.mem_map.1 hs
  exact cut1_size r
end RW
theorem pick_any (c n : Int) (hc : -9223372036854775808 ≤ c) (hc2 : c ≤ 9223372036854775807) (h : 1 ≤ n) (hn : n ≤ 9223372036854775807) (w : World) : Calls Tryz.prog 15 #[.int .i64 c, .int .i64 n] w fun e w' => e = .returned (.int .i64 (RW.pickI c n)) ∧ w = w' := by
  by_cases h0 : c < 0
  · have h1 : 0 ≤ -(c + 1) := by omega
    have e : RW.pickI c n = -(c + 1) % n := by unfold RW.pickI; rw [if_pos h0]
    have eH := hide e
    clear e
    go_enter Tryz.func15, Tryz.ntmps15
    go_wp2
    go_ret
    refine ⟨?_, rfl⟩
    rw [eH.out, ← Int.tmod_eq_emod_of_nonneg h1, Int.neg_tmod]
    rfl
  · have e : RW.pickI c n = c % n := by unfold RW.pickI; rw [if_neg h0]
    have eH := hide e
    clear e
    go_enter Tryz.func15, Tryz.ntmps15
    go_wp2
    go_ret
    exact ⟨by rw [eH.out]; rfl, rfl⟩
theorem lsize_any (c : Int) (hc : -9223372036854775808 ≤ c) (hc2 : c ≤ 9223372036854775807) (z : Nat) (hz : 1 + RW.pickI c 1500 = (z : Int)) (w : World) : Calls Tryz.prog 16 #[.int .i64 c] w fun e w' => e = .returned (.int .i64 (z : Int)) ∧ w = w' := by
  have hP := hide (pick_any c 1500 hc hc2 (by decide) (by decide) w)
  obtain ⟨b1, b2⟩ := RW.pickI_bd c 1500 (by decide)
  have hzH := hide hz
  clear hz
  go_enter Tryz.func16, Tryz.ntmps16
  go_wp2_with (go_at_call 15; refine hP.out.mono ?_; rintro e w1 ⟨rfl, rfl⟩)
  go_ret
  exact ⟨by rw [← hzH.out]; rfl, rfl⟩
theorem content_any (B b n db vb : Nat) (pv : Value) (S : RW.Dk) (w : World) (h : DiskAt w B b n db vb pv S) : Calls Tryz.prog 23 #[.pointer (some ⟨b, 0, none⟩)] w fun e w' => e = .returned (.string (S.read n 0 n).1) ∧ w = w' := by
  have hRd := hide (read_any B b n db vb pv S 0 (n : Int) w h)
  have hSz := hide (size_any w h)
  clear h
  go_enter Tryz.func23, Tryz.ntmps23
  go_wp2_with (first
    | (go_at_call 56; refine hSz.out.mono ?_; rintro e w' ⟨rfl, rfl⟩)
    | (go_at_call 57; refine hRd.out.mono ?_; rintro e w' ⟨rfl, rfl⟩))
  go_ret
  exact ⟨rfl, rfl⟩
section
variable {ev : Operand → Value} {o : Oper} {x y : Operand} {w : World}
theorem op_idx_s {b ao i n c : Nat} (ho : o.op = .indexAddr 22 x y) (hx : ev x = .slice (some ⟨b, ao, none⟩) n c) (hy : ev y = .int .i64 i) (hi : i < n) : (execOp ev o).run Tryz.prog w = .ok (.value (.pointer (some ⟨b, ao + i, none⟩))) w := by
  unfold execOp
  rw [ho]
  simp only [hx, hy]
  go_simp
theorem op_min100 {k : Nat} (ho : o.op = .call { callee := .builtin .min, args := #[x, y], argTypes := #[3, 3] }) (hx : ev x = .int .i64 (k : Int)) (hy : ev y = .int .i64 100) : (execOp ev o).run Tryz.prog w = .ok (.value (.int .i64 ((min k 100 : Nat) : Int))) w := by
  unfold execOp
  rw [ho]
  simp only [hx, hy]
  by_cases h : k < 100
  · have e : min (k : Int) 100 = (k : Int) := by omega
    rw [Nat.min_eq_left (by omega)]
    go_simp
    try exact e
  · have e : min (k : Int) 100 = 100 := by omega
    rw [Nat.min_eq_right (by omega)]
    go_simp
    try exact e
theorem op_sl0 {s : ByteArray} {j : Nat} (ho : o.op = .slice 9 x none (some y) none) (hx : ev x = .string s) (hy : ev y = .int .i64 (j : Int)) (hj : j ≤ s.size) : (execOp ev o).run Tryz.prog w = .ok (.value (.string (s.extract 0 j))) w := by
  have h3 : (j : Int) ≤ (s.size : Int) := by omega
  unfold execOp
  rw [ho]
  simp only [hx, hy, Option.map_some, Option.map_none]
  go_simp
theorem op_bs1 {s : ByteArray} (ho : o.op = .buildSlice 22 1 #[(0, x)]) (hx : ev x = .string s) : (execOp ev o).run Tryz.prog w = .ok (.value (.slice (some ⟨w.heap.size, 0, none⟩) 1 1)) (w.alloc (.cells #[.string s] 9)) := by
  unfold execOp
  rw [ho]
  go_simp
theorem op_apps {v s v' : Value} {w' : World} (ho : o.op = .call { callee := .builtin .append, args := #[x, y], argTypes := #[22, 22] }) (hx : ev x = v) (hy : ev y = s) (hr : (Builtin.append_ #[22, 22] o.type #[v, s]).run Tryz.prog w = .ok v' w') :
    (execOp ev o).run Tryz.prog w = .ok (.value v') w' := by
  unfold execOp
  simp only [ho, resolve, invoke, builtin, Sem.run_bind, Sem.run_pure, Result.andThen_ok, List.map_toArray, List.map_cons, List.map_nil, hx, hy, hr]
theorem op_neqs {a b : ByteArray} (ho : o.op = .binOp .neq 9 x y 9) (hx : ev x = .string a) (hy : ev y = .string b) {r : Bool} (h : r = !decide (a = b)) : (execOp ev o).run Tryz.prog w = .ok (.value (.bool r)) w := by
  have h2 : (a.toList == b.toList) = decide (a = b) := by
    by_cases e : a = b
    · subst e
      simp
    · rw [decide_eq_false e, beq_eq_false_iff_ne, ByteArray.toList_eq, ByteArray.toList_eq]
      exact fun e' => e (RW.bytes_eq e')
  subst h
  unfold execOp
  rw [ho]
  simp only [hx, hy]
  go_simp
end
theorem strR_cell {W W' : World} {v : Value} {l : List ByteArray} {j : Nat} {r : ByteArray} (h : StrR W v l) (hr : l[j]? = some r) : ∃ g o c, v = .slice (some ⟨g, o, none⟩) l.length c ∧ ∀ W', Below W.heap.size W W' → W'.cell? ⟨g, o + j, none⟩ = some (.string r) := by
  obtain ⟨a, c, rfl, _, hc⟩ := h
  rcases hc with rfl | ⟨g, o, rfl, hb, hc⟩
  · simp at hr
  · refine ⟨g, o, c, rfl, fun W' hB => ?_⟩
    have e := hc j r hr 0 _ rfl
    rw [Nat.mul_one, Nat.add_zero] at e
    exact (World.cell?_of_block (a := ⟨g, o + j, none⟩) (hB.block _ hb)).trans e
set_option maxRecDepth 100000 in
set_option maxHeartbeats 4000000 in
theorem few_any (v : Value) (l : List ByteArray) (w : World) (hl : StrR w v l) (hll : l.length ≤ 9223372036854775807) :
    Calls Tryz.prog 12 #[v] w fun e w' => ∃ u, e = .returned u ∧ StrsOwn w' w.heap.size u (RW.fewL l) ∧ Below w.heap.size w w' := by
  have hlA := hide hl
  obtain ⟨la, lc, rfl, _, _⟩ := id hl
  obtain ⟨B, hB⟩ : ∃ B, B = w.heap.size := ⟨_, rfl⟩
  have hBH := hide hB
  obtain ⟨n, hn⟩ : ∃ n, n = l.length := ⟨_, rfl⟩
  have hnH := hide hn
  rw [← hn] at hlA hll ⊢
  rw [← hB]
  clear hl hB hn
  go_enter Tryz.func12, Tryz.ntmps12
  go_wp2
  go_loopw [3, 4] (fun u i wr => ∃ (j : Nat), i = .int .i64 j ∧ j ≤ n ∧ j ≤ 6 ∧ Hid (StrsOwn wr B u ((l.take j).map RW.cut1) ∧ Below B w wr)) (fun _ i _ => 6 - (intOf i).toNat)
  case atStart => exact ⟨0, rfl, Nat.zero_le _, Nat.zero_le _, ⟨⟨rfl, .inl ⟨rfl, rfl⟩⟩, by rw [hBH.out]; exact Below.refl _ _⟩⟩
  case round =>
    obtain ⟨j, rfl, hj, hj6, hQ⟩ := hrel
    obtain ⟨wo, hwo⟩ : ∃ wo, wo = wr := ⟨_, rfl⟩
    subst hwo
    by_cases hjn : j < n
    · by_cases hj5 : j < 6
      · obtain ⟨r, hr⟩ : ∃ r, l[j]? = some r := ⟨_, List.getElem?_eq_getElem (by rw [← hnH.out]; exact hjn)⟩
        obtain ⟨g0, o0, lc', e', hcell⟩ := strR_cell (W' := wo) (by have h := hlA.out; rw [hnH.out] at h; exact h) hr
        cases e'
        have hcellH := hide (fun W (hW : Below B w W) => hcell W (by rw [← hBH.out]; exact hW))
        have htk := hide (show (l.take (j + 1)).map RW.cut1 = (l.take j).map RW.cut1 ++ [RW.cut1 r] by rw [RW.take_snocB hr, List.map_append]; rfl)
        obtain ⟨ua, uc, eu⟩ := own_shape hQ.out.1
        have hlen : ((l.take j).map RW.cut1).length = j := by rw [List.length_map, List.length_take, ← hnH.out]; omega
        rw [hlen] at eu
        subst eu
        have hmin : min r.size 100 ≤ r.size := Nat.min_le_left _ _
        have hlenH := hide hlen
        clear hr hcell hlen
        go_upto_region 5 with fail
        refine wp_region_k (fun _ W => Below B w W) (fun W => StrsOwn W B (.slice ua j uc) ((l.take j).map RW.cut1)) [12, 13] (.op 0 (.op 1 (.op 2 (.op 3 (.op 4 (.op 5 (.op 6 (.op 7 (.op 8 (.op 9 (.op 10 (.op 11 (.op 12 (.op 13 (.op 14 .nil))))))))))))))) (by kernel_rfl) (by kernel_rfl) (by rfl) (by kernel_rfl) hQ.out.2.drew (own_keep hQ.out.1 fun _ _ => rfl) ?_
        refine k_val (.slice ua j uc) (by apply opN; repeat' (first | apply OpAt.z | apply OpAt.s)) (by rfl) (by rfl) (fun _ W hS => op_mv rfl rfl) ?_
        simp only [Act.put, List.setIfInBounds_toArray, List.set_cons_zero, List.set_cons_succ]
        refine k_val (.slice (some ⟨g0, o0, none⟩) n lc) (by apply opN; repeat' (first | apply OpAt.z | apply OpAt.s)) (by rfl) (by rfl) (fun _ W hS => op_mv rfl rfl) ?_
        simp only [Act.put, List.setIfInBounds_toArray, List.set_cons_zero, List.set_cons_succ]
        refine k_val (.int .i64 (j : Int)) (by apply opN; repeat' (first | apply OpAt.z | apply OpAt.s)) (by rfl) (by rfl) (fun _ W hS => op_mv rfl rfl) ?_
        simp only [Act.put, List.setIfInBounds_toArray, List.set_cons_zero, List.set_cons_succ]
        refine k_val (.pointer (some ⟨g0, o0 + j, none⟩)) (by apply opN; repeat' (first | apply OpAt.z | apply OpAt.s)) (by rfl) (by rfl) (fun _ W hS => op_idx_s rfl rfl rfl hjn) ?_
        simp only [Act.put, List.setIfInBounds_toArray, List.set_cons_zero, List.set_cons_succ]
        refine k_val (.string r) (by apply opN; repeat' (first | apply OpAt.z | apply OpAt.s)) (by rfl) (by rfl) (fun _ W hS => op_ld rfl rfl (str_ld (hcellH.out W hS))) ?_
        simp only [Act.put, List.setIfInBounds_toArray, List.set_cons_zero, List.set_cons_succ]
        refine k_val (.slice (some ⟨g0, o0, none⟩) n lc) (by apply opN; repeat' (first | apply OpAt.z | apply OpAt.s)) (by rfl) (by rfl) (fun _ W hS => op_mv rfl rfl) ?_
        simp only [Act.put, List.setIfInBounds_toArray, List.set_cons_zero, List.set_cons_succ]
        refine k_val (.int .i64 (j : Int)) (by apply opN; repeat' (first | apply OpAt.z | apply OpAt.s)) (by rfl) (by rfl) (fun _ W hS => op_mv rfl rfl) ?_
        simp only [Act.put, List.setIfInBounds_toArray, List.set_cons_zero, List.set_cons_succ]
        refine k_val (.pointer (some ⟨g0, o0 + j, none⟩)) (by apply opN; repeat' (first | apply OpAt.z | apply OpAt.s)) (by rfl) (by rfl) (fun _ W hS => op_idx_s rfl rfl rfl hjn) ?_
        simp only [Act.put, List.setIfInBounds_toArray, List.set_cons_zero, List.set_cons_succ]
        refine k_val (.string r) (by apply opN; repeat' (first | apply OpAt.z | apply OpAt.s)) (by rfl) (by rfl) (fun _ W hS => op_ld rfl rfl (str_ld (hcellH.out W hS))) ?_
        simp only [Act.put, List.setIfInBounds_toArray, List.set_cons_zero, List.set_cons_succ]
        refine k_val (.int .i64 (r.size : Int)) (by apply opN; repeat' (first | apply OpAt.z | apply OpAt.s)) (by rfl) (by rfl) (fun _ W hS => op_lens rfl rfl) ?_
        simp only [Act.put, List.setIfInBounds_toArray, List.set_cons_zero, List.set_cons_succ]
        refine k_val (.int .i64 ((min r.size 100 : Nat) : Int)) (by apply opN; repeat' (first | apply OpAt.z | apply OpAt.s)) (by rfl) (by rfl) (fun _ W hS => op_min100 rfl rfl rfl) ?_
        simp only [Act.put, List.setIfInBounds_toArray, List.set_cons_zero, List.set_cons_succ]
        refine k_val (.string (RW.cut1 r)) (by apply opN; repeat' (first | apply OpAt.z | apply OpAt.s)) (by rfl) (by rfl) (fun _ W hS => op_sl0 rfl rfl rfl hmin) ?_
        simp only [Act.put, List.setIfInBounds_toArray, List.set_cons_zero, List.set_cons_succ]
        refine k_step (fun K' u => ∃ g, u = .slice (some ⟨g, 0, none⟩) 1 1 ∧ K' = fun W => ∃ W0, g = W0.heap.size ∧ W = W0.alloc (.cells #[.string (RW.cut1 r)] 9) ∧ (fun W => StrsOwn W B (.slice ua j uc) ((l.take j).map RW.cut1) ∧ Below B w W) W0) (by apply opN; repeat' (first | apply OpAt.z | apply OpAt.s)) (by rfl) (by rfl) (by rfl) (fun W hCW hK => ?_) ?_
        · exact xup_val (op_bs1 rfl rfl) ⟨alloc_bel hCW (Nat.le_of_eq hBH.out) _, _, ⟨W, rfl, rfl, hK, hCW⟩, W.heap.size, rfl, rfl⟩
        rintro _ _ ⟨g, rfl, rfl⟩
        simp only [Act.put, List.setIfInBounds_toArray, List.set_cons_zero, List.set_cons_succ]
        refine k_step (fun K' u => K' = fun W => StrsOwn W B u ((l.take j).map RW.cut1 ++ [RW.cut1 r]) ∧ Below B w W) (by apply opN; repeat' (first | apply OpAt.z | apply OpAt.s)) (by rfl) (by rfl) (by rfl) (fun W hCW hK => ?_) ?_
        · obtain ⟨W0, rfl, rfl, hK1, hK2⟩ := hK
          have hBW : B ≤ W0.heap.size := by rw [hBH.out]; exact hK2.size
          obtain ⟨v', W', hrun, ho', hc', hu'⟩ := run_app_str (RW.cut1 r) hK1 hBW (by rw [hlenH.out]; omega)
          have hB' := hK2.trans (hc'.belowJ (fun k hk => (own_blk hK1 hk).1) hBW)
          exact xup_val (op_apps rfl rfl rfl hrun) ⟨hB', _, ⟨ho', hB'⟩, rfl⟩
        rintro _ v' rfl
        simp only [Act.put, List.setIfInBounds_toArray, List.set_cons_zero, List.set_cons_succ]
        refine k_val (v') (by apply opN; repeat' (first | apply OpAt.z | apply OpAt.s)) (by rfl) (by rfl) (fun _ W hS => op_asg rfl rfl) ?_
        simp only [Act.put, List.setIfInBounds_toArray, List.set_cons_zero, List.set_cons_succ]
        refine k_nil ?_
        intro W hCW hK
        go_wp2
        go_roundw
        case rel => exact ⟨j + 1, by go_num, by omega, by omega, ⟨by rw [htk.out]; exact hK.1, hK.2⟩⟩
        case measure => simp [intOf]; omega
      · obtain rfl : j = 6 := by omega
        have h6 : ¬ ((6 : Nat) : Int) < 6 := by decide
        go_wp2
        go_ret
        exact ⟨_, rfl, hQ.out.1, hQ.out.2⟩
    · obtain rfl : n = j := by omega
      have hQ2 := hide (show StrsOwn wo B _ (RW.fewL l) ∧ Below B w wo from by
        have h := hQ.out
        have e : l.take n = l.take 6 := by rw [hnH.out, List.take_length, List.take_of_length_le (by rw [← hnH.out]; exact hj6)]
        rw [e] at h
        exact h)
      clear hQ
      go_wp2
      go_ret
      exact ⟨_, rfl, hQ2.out.1, hQ2.out.2⟩
set_option maxRecDepth 100000 in
set_option maxHeartbeats 4000000 in
theorem same20_any (v v2 : Value) (l m : List ByteArray) (w : World) (hl : StrR w v l) (hm : StrR w v2 m) (hll : l.length ≤ 9223372036854775807) (hmm : m.length ≤ 9223372036854775807) :
    Calls Tryz.prog 19 #[v, v2] w fun e w' => e = .returned (.bool (decide (l = m))) ∧ Below w.heap.size w w' := by
  have hlA := hide hl
  have hmA := hide hm
  obtain ⟨la, lc, rfl, _, _⟩ := id hl
  obtain ⟨ma, mc, rfl, _, _⟩ := id hm
  obtain ⟨n, hn⟩ : ∃ n, n = l.length := ⟨_, rfl⟩
  obtain ⟨q, hq⟩ : ∃ n, n = m.length := ⟨_, rfl⟩
  have hnH := hide hn
  have hqH := hide hq
  rw [← hn] at hlA hll ⊢
  rw [← hq] at hmA hmm ⊢
  clear hl hm hn hq
  by_cases hnq : n = q
  · subst hnq
    go_enter Tryz.func19, Tryz.ntmps19
    go_wp2
    go_loopw [5] (fun i wr => ∃ (j : Nat), i = .int .i64 j ∧ j ≤ n ∧ Hid (l.take j = m.take j ∧ Below w.heap.size w wr)) (fun i _ => n - (intOf i).toNat)
    case atStart => exact ⟨0, rfl, Nat.zero_le _, ⟨rfl, Below.refl _ _⟩⟩
    case round =>
      obtain ⟨j, rfl, hj, hQ⟩ := hrel
      obtain ⟨wo, hwo⟩ : ∃ wo, wo = wr := ⟨_, rfl⟩
      subst hwo
      by_cases hjn : j < n
      · obtain ⟨r, hr⟩ : ∃ r, l[j]? = some r := ⟨_, List.getElem?_eq_getElem (by rw [← hnH.out]; exact hjn)⟩
        obtain ⟨r2, hr2⟩ : ∃ r, m[j]? = some r := ⟨_, List.getElem?_eq_getElem (by rw [← hqH.out]; exact hjn)⟩
        obtain ⟨g0, o0, lc', e', hcell⟩ := strR_cell (W' := wo) (by have h := hlA.out; rw [hnH.out] at h; exact h) hr
        cases e'
        obtain ⟨g1, o1, mc', e', hcell2⟩ := strR_cell (W' := wo) (by have h := hmA.out; rw [hqH.out] at h; exact h) hr2
        cases e'
        have hcellH := hide hcell
        have hcell2H := hide hcell2
        have htk := hide (show l.take (j + 1) = l.take j ++ [r] ∧ m.take (j + 1) = m.take j ++ [r2] from ⟨RW.take_snocB hr, RW.take_snocB hr2⟩)
        have hne := hide (show r ≠ r2 → decide (l = m) = false from fun h => decide_eq_false (by
          rintro rfl
          rw [hr] at hr2
          cases hr2
          exact h rfl))
        clear hr hr2 hcell hcell2
        go_upto_region 6 with fail
        refine wp_region_k (fun _ W => Below w.heap.size w W) (fun _ => True) [] (.op 0 (.op 1 (.op 2 (.op 3 (.op 4 (.op 5 (.op 6 (.op 7 (.op 8 .nil))))))))) (by kernel_rfl) (by kernel_rfl) (by rfl) (by kernel_rfl) hQ.out.2.drew trivial ?_
        refine k_val (.slice (some ⟨g0, o0, none⟩) n lc) (by apply opN; repeat' (first | apply OpAt.z | apply OpAt.s)) (by rfl) (by rfl) (fun _ W hS => op_mv rfl rfl) ?_
        simp only [Act.put, List.setIfInBounds_toArray, List.set_cons_zero, List.set_cons_succ]
        refine k_val (.int .i64 (j : Int)) (by apply opN; repeat' (first | apply OpAt.z | apply OpAt.s)) (by rfl) (by rfl) (fun _ W hS => op_mv rfl rfl) ?_
        simp only [Act.put, List.setIfInBounds_toArray, List.set_cons_zero, List.set_cons_succ]
        refine k_val (.pointer (some ⟨g0, o0 + j, none⟩)) (by apply opN; repeat' (first | apply OpAt.z | apply OpAt.s)) (by rfl) (by rfl) (fun _ W hS => op_idx_s rfl rfl rfl hjn) ?_
        simp only [Act.put, List.setIfInBounds_toArray, List.set_cons_zero, List.set_cons_succ]
        refine k_val (.string r) (by apply opN; repeat' (first | apply OpAt.z | apply OpAt.s)) (by rfl) (by rfl) (fun _ W hS => op_ld rfl rfl (str_ld (hcellH.out W hS))) ?_
        simp only [Act.put, List.setIfInBounds_toArray, List.set_cons_zero, List.set_cons_succ]
        refine k_val (.slice (some ⟨g1, o1, none⟩) n mc) (by apply opN; repeat' (first | apply OpAt.z | apply OpAt.s)) (by rfl) (by rfl) (fun _ W hS => op_mv rfl rfl) ?_
        simp only [Act.put, List.setIfInBounds_toArray, List.set_cons_zero, List.set_cons_succ]
        refine k_val (.int .i64 (j : Int)) (by apply opN; repeat' (first | apply OpAt.z | apply OpAt.s)) (by rfl) (by rfl) (fun _ W hS => op_mv rfl rfl) ?_
        simp only [Act.put, List.setIfInBounds_toArray, List.set_cons_zero, List.set_cons_succ]
        refine k_val (.pointer (some ⟨g1, o1 + j, none⟩)) (by apply opN; repeat' (first | apply OpAt.z | apply OpAt.s)) (by rfl) (by rfl) (fun _ W hS => op_idx_s rfl rfl rfl hjn) ?_
        simp only [Act.put, List.setIfInBounds_toArray, List.set_cons_zero, List.set_cons_succ]
        refine k_val (.string r2) (by apply opN; repeat' (first | apply OpAt.z | apply OpAt.s)) (by rfl) (by rfl) (fun _ W hS => op_ld rfl rfl (str_ld (hcell2H.out W hS))) ?_
        simp only [Act.put, List.setIfInBounds_toArray, List.set_cons_zero, List.set_cons_succ]
        refine k_val (.bool (!decide (r = r2))) (by apply opN; repeat' (first | apply OpAt.z | apply OpAt.s)) (by rfl) (by rfl) (fun _ W hS => op_neqs rfl rfl rfl rfl) ?_
        simp only [Act.put, List.setIfInBounds_toArray, List.set_cons_zero, List.set_cons_succ]
        refine k_nil ?_
        intro W hCW _
        by_cases hrr : r = r2
        · have hd : (!decide (r = r2)) = false := by rw [decide_eq_true hrr]; rfl
          have hrrH := hide hrr
          have hBH := hide (hCW : Below w.heap.size w W)
          rw [hd]
          clear hrr hd
          go_wp2
          go_roundw
          case rel => exact ⟨j + 1, by go_num, by omega, ⟨by rw [htk.out.1, htk.out.2, hQ.out.1, hrrH.out], hBH.out⟩⟩
          case measure => simp [intOf]; omega
        · have hd : (!decide (r = r2)) = true := by rw [decide_eq_false hrr]; rfl
          have hrrH := hide hrr
          have hBH := hide (hCW : Below w.heap.size w W)
          rw [hd]
          clear hrr hd
          go_wp2
          go_ret
          exact ⟨by rw [hne.out hrrH.out]; rfl, hBH.out⟩
      · obtain rfl : n = j := by omega
        have hQ2 := hide (show decide (l = m) = true ∧ Below w.heap.size w wo from by
          have h := hQ.out
          rw [hnH.out, List.take_length, ← hnH.out, hqH.out, List.take_length] at h
          exact ⟨decide_eq_true h.1, h.2⟩)
        clear hQ
        go_wp2
        go_ret
        exact ⟨by rw [hQ2.out.1]; rfl, hQ2.out.2⟩
  · have hd := hide (show decide (l = m) = false from decide_eq_false fun e => hnq (by rw [hnH.out, hqH.out, e]))
    go_enter Tryz.func19, Tryz.ntmps19
    go_wp2
    go_ret
    exact ⟨by rw [hd.out]; rfl, Below.refl _ _⟩
end Go.Proofs.YtllbphanfahkkaaGreatDoor

/-
  Journals: plain laws of Append and Open while no loss of power is scheduled; the calls on a journal, as one state.
-/
namespace Go.Proofs.YtllbphanfahkkaaGreatDoor
open Go.RowKit RG
namespace RW
section
variable {H : List UInt8 → List UInt8} (hH : ∀ l, (H l).length = 32)
theorem inv_dk0 (n : Nat) : JInv H n (dk0 n) [] := ⟨by simp [cont, stos, dk0], by simp [cont, stos, dk0], rfl, rfl, Nat.zero_le _, fun _ h => by cases h⟩
theorem no_long {l : List ByteArray} (h : ∀ r ∈ l, r.size ≤ 65536) : l.any (fun r => decide (65536 < r.size)) = false := by
  rw [List.any_eq_false]
  intro r hr
  have := h r hr
  simp
  omega
include hH
theorem japp_fit {n : Nat} {S : Dk} {rs l : List ByteArray} (h : JInv H n S rs) (h0 : S.left = 0) (hl : ∀ r ∈ l, r.size ≤ 65536) (hf : (stos H z32 rs).length + (stos H (hds H z32 rs) l).length ≤ n) :
    ∃ S', japp H n S rs false l = (0, rs ++ l, false, S') ∧ JInv H n S' (rs ++ l) ∧ S'.left = 0 := by
  by_cases hnil : l = []
  · subst hnil
    rw [List.append_nil]
    exact ⟨S, japp_none, h, h0⟩
  have hj := japp_out H hH h l
  rw [japp_wr (no_long hl) (by omega) hnil rfl] at hj ⊢
  generalize (if (wrsy n S ((stos H z32 rs).length + 1) ((stos H (hds H z32 rs) l).drop 1)).1 ≠ 0 then wrsy n S ((stos H z32 rs).length + 1) ((stos H (hds H z32 rs) l).drop 1) else wrsy n (wrsy n S ((stos H z32 rs).length + 1) ((stos H (hds H z32 rs) l).drop 1)).2 (stos H z32 rs).length ((stos H (hds H z32 rs) l).take 1)) = R at hj ⊢
  obtain ⟨R1, R2⟩ := R
  have key : ∀ X, JOut H n S rs l X → (X = (R1, rs, true, R2) → False) ∧ (X = (0, rs ++ l, false, R2) → JInv H n R2 (rs ++ l) ∧ R2.left = 0) := by
    intro X hX
    cases hX with
    | same e he =>
      refine ⟨fun e1 => ?_, fun e1 => ?_⟩
      · injection e1 with _ e2
        injection e2 with _ e3
        injection e3 with e4
        cases e4
      · injection e1 with e2
        omega
    | empty he => exact absurd he hnil
    | all S' g g0 =>
      refine ⟨fun e1 => ?_, fun e1 => ?_⟩
      · injection e1 with _ e2
        injection e2 with _ e3
        injection e3 with e4
        cases e4
      · injection e1 with _ e2
        injection e2 with _ e3
        injection e3 with _ e4
        subst e4
        exact ⟨g, g0 h0⟩
    | lost S' _ h1 => exact absurd h0 h1
  by_cases hR : R1 ≠ 0
  · rw [if_pos hR] at hj
    exact absurd rfl (key _ hj).1
  · rw [if_neg hR] at hj ⊢
    obtain ⟨g1, g2⟩ := (key _ hj).2 rfl
    exact ⟨R2, rfl, g1, g2⟩
/-- whatever is appended, while no loss of power is scheduled -/
theorem japp_any {n : Nat} {S : Dk} {rs : List ByteArray} (h : JInv H n S rs) (h0 : S.left = 0) (l : List ByteArray) :
    ∃ x S' rs', japp H n S rs false l = (x, rs', false, S') ∧ JInv H n S' rs' ∧ S'.left = 0 := by
  by_cases hlong : l.any (fun r => decide (65536 < r.size)) = true
  · exact ⟨_, _, _, japp_long (.inr hlong), h, h0⟩
  by_cases hf : n - (stos H z32 rs).length < (stos H (hds H z32 rs) l).length
  · exact ⟨_, _, _, japp_full (by simpa using hlong) hf, h, h0⟩
  have hl : ∀ r ∈ l, r.size ≤ 65536 := fun r hr => by
    have h1 : ¬ 65536 < r.size := fun e => hlong (List.any_eq_true.2 ⟨r, hr, decide_eq_true e⟩)
    omega
  obtain ⟨S', h1, h2, h3⟩ := japp_fit hH h h0 hl (by have := h.fits; omega)
  exact ⟨_, _, _, h1, h2, h3⟩
omit hH
theorem inv_cut {n : Nat} {S : Dk} {rs : List ByteArray} (h : JInv H n S rs) : S.cut 1 = (0, ⟨false, 1, S.dur, S.vis, S.pend⟩) ∧ JInv H n ⟨false, 1, S.dur, S.vis, S.pend⟩ rs := by
  refine ⟨?_, h.vis, h.dur, h.pend, rfl, h.fits, h.lims⟩
  unfold Dk.cut
  rw [if_neg (by rw [h.off]; simp), if_neg (by decide)]
  rfl
theorem inv_read {n : Nat} {S : Dk} {rs : List ByteArray} (h : JInv H n S rs) : (S.read n 0 n).1.size = n := by
  unfold Dk.read
  rw [if_neg (by rw [h.off]; simp), if_pos ((insB_iff n _ _).2 ⟨by omega, by omega, by omega, by omega⟩)]
  show (strOf _).size = n
  rw [strOf_size, show (0 : Int).toNat = 0 from rfl, List.drop_zero, Int.toNat_natCast, List.length_take, h.vis, cont_len H h.fits, Nat.min_self]
end
end RW
/-- a disk, a journal on it, since the world w -/
structure JW (K : Nat → Int) (B b n db vb jb : Nat) (S : RW.Dk) (rs : List ByteArray) (br : Bool) (w W : World) : Prop where
  d : ∃ pv, DiskAt W B b n db vb pv S
  j : ∃ rv, JrAt (RW.sha K) W B jb b rv rs br
  bel : Below B w W
section
variable {K : Nat → Int} {ks : Array Value} {B b n db vb jb : Nat} {S : RW.Dk} {rs l : List ByteArray} {br : Bool} {w W W' : World}
theorem JW.next (h : JW K B b n db vb jb S rs br w W) (hB : Below W.heap.size W W') : JW K B b n db vb jb S rs br w W' := by
  obtain ⟨pv, h1⟩ := h.d
  obtain ⟨rv, h2⟩ := h.j
  exact ⟨⟨pv, h1.next hB⟩, ⟨rv, h2.next hB⟩, h.bel.trans (hB.mono (Nat.le_trans h1.hb (Nat.le_of_lt h1.lt.1)))⟩
theorem JW.tch {S' : RW.Dk} (h : JW K B b n db vb jb S rs br w W) (hd : ∃ pv, DiskAt W' B b n db vb pv S') (hT : Tch b db vb W W') (hB : Below B W W') : JW K B b n db vb jb S' rs br w W' := by
  obtain ⟨pv, h1⟩ := h.d
  obtain ⟨rv, h2⟩ := h.j
  exact ⟨hd, ⟨rv, h2.tch h1 hT⟩, h.bel.trans hB⟩
theorem JW.hn (h : JW K B b n db vb jb S rs br w W) : n ≤ 4194304 := h.d.elim fun _ h => h.hn
theorem JW.hB (h : JW K B b n db vb jb S rs br w W) : B ≤ W.heap.size := h.d.elim fun _ h => Nat.le_trans h.hb (Nat.le_of_lt h.lt.1)
theorem JW.append (hks : RW.WsOk ks K) (h : JW K B b n db vb jb S rs br w W) (hp : S.pend.length < 900000) (hfit : (RW.stos (RW.sha K) RW.z32 rs).length ≤ n) {lv : Value} (hl : StrR W lv l) (hll : l.length ≤ 1000) (hK : KLaid W ks) :
    Calls Tryz.prog 11 #[.pointer (some ⟨jb, 0, none⟩), lv] W fun e w' => e = .returned (.int .i64 (RW.japp (RW.sha K) n S rs br l).1) ∧ JW K B b n db vb jb (RW.japp (RW.sha K) n S rs br l).2.2.2 (RW.japp (RW.sha K) n S rs br l).2.1 (RW.japp (RW.sha K) n S rs br l).2.2.1 w w' ∧ Below B W w' ∧ TchJ jb b db vb W w' := by
  obtain ⟨pv, h1⟩ := h.d
  obtain ⟨rv, h2⟩ := h.j
  refine (Append_any B b n db vb jb pv rv lv S rs l br K ks hks W h1 hp h2 hfit hl hll hK).mono ?_
  rintro e w' ⟨h3, ⟨pv', rv', h4, h5⟩, h6, h7⟩
  exact ⟨h3, ⟨⟨pv', h4⟩, ⟨rv', h5⟩, h.bel.trans h7⟩, h7, h6⟩
theorem JW.room (h : JW K B b n db vb jb S rs br w W) (hfit : (RW.stos (RW.sha K) RW.z32 rs).length ≤ n) :
    Calls Tryz.prog 21 #[.pointer (some ⟨jb, 0, none⟩)] W fun e w' => e = .returned (.int .i64 ((n : Int) - ((RW.stos (RW.sha K) RW.z32 rs).length : Int))) ∧ JW K B b n db vb jb S rs br w w' ∧ Below W.heap.size W w' := by
  obtain ⟨pv, h1⟩ := h.d
  obtain ⟨rv, h2⟩ := h.j
  refine (room_any B b n db vb jb pv rv S rs br (by have := h1.hn; omega) W h1 h2).mono ?_
  rintro e w' ⟨h3, k, rfl⟩
  have hb : Below W.heap.size W (W.drewN k) := ⟨rfl, rfl, rfl, Nat.le_refl _, fun _ _ => rfl⟩
  exact ⟨h3, h.next hb, hb⟩
theorem JW.records (h : JW K B b n db vb jb S rs br w W) (hfit : (RW.stos (RW.sha K) RW.z32 rs).length ≤ n) :
    Calls Tryz.prog 20 #[.pointer (some ⟨jb, 0, none⟩)] W fun e w' => ∃ u, e = .returned u ∧ StrsOwn w' W.heap.size u rs ∧ JW K B b n db vb jb S rs br w w' ∧ Below W.heap.size W w' := by
  obtain ⟨rv, h2⟩ := h.j
  refine (records_any B b jb rv rs br (by have := h.hn; have := RW.stos_ge (RW.sha K) rs RW.z32; omega) W h2).mono ?_
  rintro e w' ⟨u, h3, h4, h5⟩
  exact ⟨u, h3, h4, h.next h5, h5⟩
theorem JW.pending (h : JW K B b n db vb jb S rs br w W) : Calls Tryz.prog 33 #[.pointer (some ⟨b, 0, none⟩)] W fun e w' => e = .returned (.int .i64 (S.pend.length : Int)) ∧ W = w' := by
  obtain ⟨pv, h1⟩ := h.d
  exact pending_any W h1
theorem JW.content (h : JW K B b n db vb jb S rs br w W) : Calls Tryz.prog 23 #[.pointer (some ⟨b, 0, none⟩)] W fun e w' => e = .returned (.string (S.read n 0 n).1) ∧ W = w' := by
  obtain ⟨pv, h1⟩ := h.d
  exact content_any B b n db vb pv S W h1
theorem JW.cut (h : JW K B b n db vb jb S rs br w W) (k : Int) (hk : k ≤ 9223372036854775807) :
    Calls Tryz.prog 30 #[.pointer (some ⟨b, 0, none⟩), .int .i64 k] W fun e w' => e = .returned (.int .i64 (S.cut k).1) ∧ JW K B b n db vb jb (S.cut k).2 rs br w w' ∧ Below B W w' ∧ Tch b db vb W w' := by
  obtain ⟨pv, h1⟩ := h.d
  obtain ⟨rv, h2⟩ := h.j
  refine (cut_any B b n db vb pv S k hk W h1).mono ?_
  rintro e w' ⟨h3, h4, h5, h6⟩
  exact ⟨h3, ⟨⟨pv, h4⟩, ⟨rv, h2.tch h1 h5⟩, h.bel.trans h6⟩, h6, h5⟩
theorem JW.write (h : JW K B b n db vb jb S rs br w W) (o : Int) (s : ByteArray) (hp : S.pend.length < 1000000) (hs : s.size ≤ 9223372036854775807) :
    Calls Tryz.prog 14 #[.pointer (some ⟨b, 0, none⟩), .int .i64 o, .string s] W fun e w' => e = .returned (.int .i64 (S.write n o s).1) ∧ JW K B b n db vb jb (S.write n o s).2 rs br w w' ∧ Below B W w' ∧ Tch b db vb W w' := by
  obtain ⟨pv, h1⟩ := h.d
  obtain ⟨rv, h2⟩ := h.j
  refine (write_any B b n db vb pv S o s W h1 hp hs).mono ?_
  rintro e w' ⟨h3, pv', h4, h5, h6⟩
  exact ⟨h3, ⟨⟨pv', h4⟩, ⟨rv, h2.tch h1 h5⟩, h.bel.trans h6⟩, h6, h5⟩
/-- Open, of a disk that holds records and zeros -/
theorem open_inv (hks : RW.WsOk ks K) {pv : Value} {a : Addr} (h : DiskAt W B b n db vb pv S) (hI : RW.JInv (RW.sha K) n S rs) (hK : KLaid W ks) (hg : W.cell? ⟨1, 0, none⟩ = some (RW.jeW a)) :
    Calls Tryz.prog 26 #[.pointer (some ⟨b, 0, none⟩)] W fun e w' => ∃ jb, e = .returned (.tuple #[.pointer (some ⟨jb, 0, none⟩), .int .i64 0]) ∧ JW K B b n db vb jb S rs false W w' ∧ Tch b db vb W w' := by
  refine (Open_any B b n db vb pv S a K ks hks W h (by rw [hI.pend]; decide) hK hg).mono ?_
  rintro e w' ⟨h1, h2, h3, h4⟩
  rw [RW.jopen_inv (RW.sha K) (RW.sha_len K) hI] at h1 h4
  rcases h4 with ⟨h5, _⟩ | ⟨rs', jb, rv, _, h5, _, h6, h7⟩
  · cases h5
  · injection h5 with h5
    subst h5
    exact ⟨jb, h6, ⟨h1, ⟨rv, h7.mono (Nat.le_trans h.hb (Nat.le_of_lt h.lt.1))⟩, h3⟩, h2⟩
/-- rows of strings lie in other blocks than a disk and a journal -/
theorem own_tchJ {u : Value} {N : Nat} (h : StrsOwn W N u l) (hJ : JW K B b n db vb jb S rs br w W) (hT : TchJ jb b db vb W W') : StrsOwn W' N u l := by
  obtain ⟨pv, h1⟩ := hJ.d
  obtain ⟨rv, h2⟩ := hJ.j
  refine own_keep h fun g hg => ?_
  obtain ⟨_, hl, c, fr, hc⟩ := own_blk h hg
  exact hT.block g hl (blocks_ne hc h2.b (by decide)) (blocks_ne hc h1.row (by decide)) (blocks_ne hc h1.dur (by decide)) (blocks_ne hc h1.vis (by decide)) (fun cur fr2 e => by rw [hc] at e; injection e with e; injection e with _ e; exact absurd e (by decide))
end
end Go.Proofs.YtllbphanfahkkaaGreatDoor

/-
  Package royaltylaw23: sane.
-/
namespace Go.Proofs.YtllbphanfahkkaaGreatDoor
open Go.RowKit RG
namespace RW
def ab : ByteArray := ⟨#[97, 98]⟩
def zs (k : Nat) : ByteArray := strOf (List.replicate k 0)
theorem zs_size (k : Nat) : (zs k).size = k := by rw [zs, strOf_size, List.length_replicate]
section
variable {H : List UInt8 → List UInt8} (hH : ∀ l, (H l).length = 32)
include hH
theorem one_len (h : List UInt8) (r : ByteArray) : (stos H h [r]).length = 33 + (putS r.data.toList).length := by
  show (sto H h r ++ []).length = _
  rw [List.append_nil, sto_len H hH]
theorem ab_len (h : List UInt8) : (stos H h [ab, ⟨#[]⟩]).length = 70 := by
  show (sto H h ab ++ (sto H (chn H h ab) ⟨#[]⟩ ++ [])).length = 70
  rw [List.append_nil, List.length_append, sto_len H hH, sto_len H hH, show (putS ab.data.toList).length = 3 by decide +kernel, show (putS (⟨#[]⟩ : ByteArray).data.toList).length = 1 by decide +kernel]
theorem z96_len (h : List UInt8) : (stos H h [zs 96]).length = 131 := by
  rw [one_len hH, show (putS (zs 96).data.toList).length = 98 by decide +kernel]
theorem z95_len (h : List UInt8) : (stos H h [zs 95]).length = 130 := by
  rw [one_len hH, show (putS (zs 95).data.toList).length = 97 by decide +kernel]
/-- the fixed calls, plain -/
theorem sane_plain : ∃ S1 S3 : Dk, JInv H 200 S1 [ab, ⟨#[]⟩] ∧ japp H 200 (dk0 200) [] false [ab, ⟨#[]⟩] = (0, [ab, ⟨#[]⟩], false, S1) ∧ japp H 200 S1 [ab, ⟨#[]⟩] false [zs 96] = (231, [ab, ⟨#[]⟩], false, S1) ∧
    JInv H 200 S3 [ab, ⟨#[]⟩, zs 95] ∧ japp H 200 S1 [ab, ⟨#[]⟩] false [zs 95] = (0, [ab, ⟨#[]⟩, zs 95], false, S3) ∧ S3.left = 0 ∧
    (stos H z32 [ab, ⟨#[]⟩]).length = 70 ∧ (stos H z32 [ab, ⟨#[]⟩, zs 95]).length = 200 := by
  have h70 := ab_len hH z32
  obtain ⟨S1, h1, h2, h3⟩ := japp_fit hH (inv_dk0 (H := H) 200) rfl (l := [ab, ⟨#[]⟩]) (fun r hr => by
    rcases List.mem_cons.1 hr with rfl | hr
    · decide
    rcases List.mem_cons.1 hr with rfl | hr
    · decide
    · cases hr) (by show 0 + (stos H z32 [ab, ⟨#[]⟩]).length ≤ 200; rw [h70]; decide)
  obtain ⟨S3, g1, g2, g3⟩ := japp_fit hH h2 h3 (l := [zs 95]) (fun r hr => by
    rcases List.mem_cons.1 hr with rfl | hr
    · rw [zs_size]; decide
    · cases hr) (by show (stos H z32 [ab, ⟨#[]⟩]).length + _ ≤ 200; rw [h70, z95_len hH]; decide)
  refine ⟨S1, S3, h2, h1, japp_full (no_long (fun r hr => by
    rcases List.mem_cons.1 hr with rfl | hr
    · rw [zs_size]; decide
    · cases hr)) (by rw [h70, z96_len hH]; decide), g2, g1, g3, h70, ?_⟩
  have e : stos H z32 ([ab, ⟨#[]⟩] ++ [zs 95]) = _ := stos_app H [ab, ⟨#[]⟩] [zs 95] z32
  show (stos H z32 ([ab, ⟨#[]⟩] ++ [zs 95])).length = 200
  rw [e, List.length_append, h70, z95_len hH]
omit hH
theorem bad_open {n : Nat} {S : Dk} {rs : List ByteArray} (h : JInv H n S rs) (h0 : S.left = 0) (hn : 1 ≤ n) : ∃ S4 : Dk, S.write n 0 ⟨#[2]⟩ = (0, S4) ∧ jopen H n S4 = (232, none, S4) ∧ S4.pend.length = 1 := by
  have hv : S.vis.length = n := by rw [h.vis, cont_len H h.fits]
  obtain ⟨x, t, hx⟩ : ∃ x t, S.vis = x :: t := by
    cases hq : S.vis with
    | nil => rw [hq] at hv; simp at hv; omega
    | cons x t => exact ⟨x, t, rfl⟩
  refine ⟨⟨false, 0, S.dur, 2 :: t, [(0, ⟨#[2]⟩)]⟩, ?_, ?_, rfl⟩
  · unfold Dk.write
    rw [if_neg (by rw [h.off]; simp), if_pos ((insB_iff n _ _).2 ⟨by omega, by decide, by omega, by show (1 : Int) ≤ _; omega⟩), h.off, h0, h.pend, hx]
    rfl
  · unfold jopen
    simp only [Bool.false_eq_true, if_false, ldL_bad H z32 t (show (2 : UInt8) ≠ 0 by decide) (show (2 : UInt8) ≠ 1 by decide)]
end
end RW
theorem cell_ltJ {W : World} {g i : Nat} {v : Value} (h : W.cell? ⟨g, i, none⟩ = some v) : g < W.heap.size := by
  refine Decidable.byContradiction fun hn => ?_
  simp [World.cell?, Array.getElem?_eq_none (Nat.le_of_not_lt hn)] at h
theorem strR_new (W : World) (l : List ByteArray) (n : Nat) (hn : n = l.length) : StrR (W.alloc (.cells (l.map Value.string).toArray 9)) (.slice (some ⟨W.heap.size, 0, none⟩) n n) l := by
  subst hn
  refine ⟨_, _, rfl, Nat.le_refl _, .inr ⟨W.heap.size, 0, rfl, by rw [alloc_size]; omega, fun i x hi j u hj => ?_⟩⟩
  rcases j with _ | j
  · simp at hj
    subst hj
    rw [Nat.mul_one, Nat.add_zero, Nat.zero_add, cellAt (alloc_at1 W _) i]
    simp [hi]
  · simp at hj
theorem strR_nil (W : World) : StrR W (.slice none 0 0) [] := RowV.nil W
theorem conv_zs (W : World) (k : Nat) : (convert 39 9 (.slice (some ⟨W.heap.size, 0, none⟩) k k)).run Tryz.prog (W.alloc (.cells (RW.byl (List.replicate k 0)).toArray 5)) = .ok (.string (RW.zs k)) (W.alloc (.cells (RW.byl (List.replicate k 0)).toArray 5)) := by
  have h1 := run_conv (W.alloc (.cells (RW.byl (List.replicate k 0)).toArray 5)) W.heap.size (List.replicate k 0) (alloc_at1 _ _) 0 k k (by simp)
  rwa [List.drop_zero, List.take_of_length_le (by simp)] at h1
theorem strR_new2 (W : World) (c : Obj) (l : List ByteArray) (n : Nat) (hn : n = l.length) : StrR ((W.alloc c).alloc (.cells (l.map Value.string).toArray 9)) (.slice (some ⟨W.heap.size + 1, 0, none⟩) n n) l := by
  have h := strR_new (W.alloc c) l n hn
  rwa [alloc_size] at h
set_option maxRecDepth 100000 in
set_option maxHeartbeats 8000000 in
theorem sane_any (K : Nat → Int) (ks : Array Value) (hks : RW.WsOk ks K) (a : Addr) (w : World) (hK : KLaid w ks) (hg : w.cell? ⟨1, 0, none⟩ = some (RW.jeW a)) :
    Calls Tryz.prog 9 #[] w fun e w' => e = .returned (.bool true) ∧ Below w.heap.size w w' := by
  obtain ⟨S1, S3, hI1, hA1, hA2, hI3, hA3, hl3, h70, h200⟩ := RW.sane_plain (RW.sha_len K)
  obtain ⟨S4, hW4, hO4, hp4⟩ := RW.bad_open hI3 hl3 (by decide)
  have hI1 := hide hI1
  have hA1 := hide hA1
  have hA2 := hide hA2
  have hI3 := hide hI3
  have hA3 := hide hA3
  have h70 := hide h70
  have h200 := hide h200
  have hW4 := hide hW4
  have hO4 := hide hO4
  have hp4 := hide hp4
  obtain ⟨B, hB⟩ : ∃ B, B = w.heap.size := ⟨_, rfl⟩
  have hBH := hide hB
  have hnx := hide (fun W (hW : Below B w W) => (show KLaid W ks ∧ W.cell? ⟨1, 0, none⟩ = some (RW.jeW a) from ⟨RW.jklaid hK hW (Nat.le_of_eq hBH.out.symm), by
    have hgl : 1 < w.heap.size := cell_ltJ hg
    exact (World.cell?_of_block (a := ⟨1, 0, none⟩) (hW.block _ (by rw [hBH.out]; exact hgl))).trans hg⟩))
  have hN := hide (new_any 200 (by decide) (by decide) w)
  rw [← hB] at hN ⊢
  clear hK hg hB hl3
  go_enter Tryz.func9, Tryz.ntmps9
  go_upto_region 2 with (go_at_call 25; refine hN.out.mono ?_; rintro e w1 ⟨b, rfl, hd1, hB1⟩; obtain ⟨db, vb, hd1⟩ := hd1; have hD1 := hide hd1; have hB1H := hide hB1; clear hd1 hB1)
  have hOp := hide (open_inv hks hD1.out (RW.inv_dk0 200) (hnx.out w1 hB1H.out).1 (hnx.out w1 hB1H.out).2)
  go_upto_region 3 with (go_at_call 26; refine hOp.out.mono ?_; rintro e w2 ⟨jb, rfl, h2, ht2⟩; have hJ2 := hide (show JW K B b 200 db vb jb (RW.dk0 200) [] false w w2 from ⟨h2.d, h2.j, hB1H.out.trans h2.bel⟩); clear h2 ht2)
  clear hOp hN hD1 hB1H
  have hRc := hide (hJ2.out.records (Nat.zero_le _))
  have hRm := hide (fun W (h : JW K B b 200 db vb jb (RW.dk0 200) [] false w W) => h.room (Nat.zero_le _))
  go_upto_region 5 with (first
    | (go_at_call 20; refine hRc.out.mono ?_; rintro e w3 ⟨u, rfl, h3, h4, h5⟩; obtain ⟨ua, uc, eu⟩ := own_shape h3; subst eu; have hJ3 := hide h4; clear h3 h4 h5)
    | (go_at_call 21; refine (hRm.out _ hJ3.out).mono ?_; rintro e w4 ⟨rfl, h4, h5⟩; have hJ4 := hide h4; clear h4 h5))
  have hAp := hide (show Calls Tryz.prog 11 #[.pointer (some ⟨jb, 0, none⟩), .slice (some ⟨w4.heap.size, 0, none⟩) 2 2] (w4.alloc (.cells #[.string ⟨#[97, 98]⟩, .string ⟨#[]⟩] 9)) fun e w' => e = .returned (.int .i64 0) ∧ JW K B b 200 db vb jb S1 [RW.ab, ⟨#[]⟩] false w w' from by
    have hj : JW K B b 200 db vb jb (RW.dk0 200) [] false w (w4.alloc (.cells #[.string ⟨#[97, 98]⟩, .string ⟨#[]⟩] 9)) := (hJ4.out.next (alloc_bel (Below.refl _ _) (Nat.le_refl _) _))
    refine (hj.append hks (by decide) (Nat.zero_le _) (strR_new w4 [RW.ab, ⟨#[]⟩] 2 rfl) (by decide) (hnx.out _ hj.bel).1).mono ?_
    rintro e w' ⟨h1, h2, _, _⟩
    rw [hA1.out] at h1 h2
    exact ⟨h1, h2⟩)
  go_upto_region 6 with (go_at_call 11; refine hAp.out.mono ?_; rintro e w5 ⟨rfl, h5⟩; have hJw5 := hide h5; clear h5)
  clear hAp hJ4
  obtain ⟨Z96, hZ⟩ : ∃ Z : List UInt8, Z = List.replicate 96 0 := ⟨_, rfl⟩
  have hmk : (Instr.makeSlice 39 (.int .i64 96) (.int .i64 96)).run Tryz.prog w5 = .ok (.slice (some ⟨w5.heap.size, 0, none⟩) 96 96) (w5.alloc (.cells (RW.byl Z96).toArray 5)) := by rw [hZ]; exact run_make_by 96 (by decide) w5
  have hcv : (convert 39 9 (.slice (some ⟨w5.heap.size, 0, none⟩) 96 96)).run Tryz.prog (w5.alloc (.cells (RW.byl Z96).toArray 5)) = .ok (.string (RW.zs 96)) (w5.alloc (.cells (RW.byl Z96).toArray 5)) := by rw [hZ]; exact conv_zs w5 96
  clear hZ
  have hAp := hide (show Calls Tryz.prog 11 #[.pointer (some ⟨jb, 0, none⟩), .slice (some ⟨w5.heap.size + 1, 0, none⟩) 1 1] ((w5.alloc (.cells (RW.byl Z96).toArray 5)).alloc (.cells #[.string (RW.zs 96)] 9)) fun e w' => e = .returned (.int .i64 231) ∧ JW K B b 200 db vb jb S1 [RW.ab, ⟨#[]⟩] false w w' from by
    have hj : JW K B b 200 db vb jb S1 [RW.ab, ⟨#[]⟩] false w ((w5.alloc (.cells (RW.byl Z96).toArray 5)).alloc (.cells #[.string (RW.zs 96)] 9)) := ((hJw5.out.next (alloc_bel (Below.refl _ _) (Nat.le_refl _) _)).next (alloc_bel (Below.refl _ _) (Nat.le_refl _) _))
    refine (hj.append hks (by rw [hI1.out.pend]; decide) (by rw [h70.out]; decide) (strR_new2 w5 _ [RW.zs 96] 1 rfl) (by decide) (hnx.out _ hj.bel).1).mono ?_
    rintro e w' ⟨h1, h2, _, _⟩
    rw [hA2.out] at h1 h2
    exact ⟨h1, h2⟩)
  go_upto_region 7 with (go_at_call 11; refine hAp.out.mono ?_; rintro e w6 ⟨rfl, h5⟩; have hJw6 := hide h5; clear h5)
  clear hAp hJw5
  clear hmk hcv
  have hRm2 := hide (hJw6.out.room (by rw [h70.out]; decide))
  rw [h70.out, show (((200 : Nat) : Int) - ((70 : Nat) : Int)) = 130 from rfl] at hRm2
  go_upto_region 8 with (go_at_call 21; refine hRm2.out.mono ?_; rintro e w7 ⟨rfl, h4, h5⟩; have hJw7 := hide h4; clear h4 h5)
  clear hRm2 hRm hRc hJw6 hJ3 hJ2
  obtain ⟨Z95, hZ⟩ : ∃ Z : List UInt8, Z = List.replicate 95 0 := ⟨_, rfl⟩
  have hmk : (Instr.makeSlice 39 (.int .i64 95) (.int .i64 95)).run Tryz.prog w7 = .ok (.slice (some ⟨w7.heap.size, 0, none⟩) 95 95) (w7.alloc (.cells (RW.byl Z95).toArray 5)) := by rw [hZ]; exact run_make_by 95 (by decide) w7
  have hcv : (convert 39 9 (.slice (some ⟨w7.heap.size, 0, none⟩) 95 95)).run Tryz.prog (w7.alloc (.cells (RW.byl Z95).toArray 5)) = .ok (.string (RW.zs 95)) (w7.alloc (.cells (RW.byl Z95).toArray 5)) := by rw [hZ]; exact conv_zs w7 95
  clear hZ
  have hAp := hide (show Calls Tryz.prog 11 #[.pointer (some ⟨jb, 0, none⟩), .slice (some ⟨w7.heap.size + 1, 0, none⟩) 1 1] ((w7.alloc (.cells (RW.byl Z95).toArray 5)).alloc (.cells #[.string (RW.zs 95)] 9)) fun e w' => e = .returned (.int .i64 0) ∧ JW K B b 200 db vb jb S3 [RW.ab, ⟨#[]⟩, RW.zs 95] false w w' from by
    have hj : JW K B b 200 db vb jb S1 [RW.ab, ⟨#[]⟩] false w ((w7.alloc (.cells (RW.byl Z95).toArray 5)).alloc (.cells #[.string (RW.zs 95)] 9)) := ((hJw7.out.next (alloc_bel (Below.refl _ _) (Nat.le_refl _) _)).next (alloc_bel (Below.refl _ _) (Nat.le_refl _) _))
    refine (hj.append hks (by rw [hI1.out.pend]; decide) (by rw [h70.out]; decide) (strR_new2 w7 _ [RW.zs 95] 1 rfl) (by decide) (hnx.out _ hj.bel).1).mono ?_
    rintro e w' ⟨h1, h2, _, _⟩
    rw [hA3.out] at h1 h2
    exact ⟨h1, h2⟩)
  go_upto_region 9 with (go_at_call 11; refine hAp.out.mono ?_; rintro e w8 ⟨rfl, h5⟩; have hJw8 := hide h5; clear h5)
  clear hAp hJw7
  clear hmk hcv
  have hOp := hide (show Calls Tryz.prog 26 #[.pointer (some ⟨b, 0, none⟩)] w8 fun e w' => ∃ j2, e = .returned (.tuple #[.pointer (some ⟨j2, 0, none⟩), .int .i64 0]) ∧ JW K B b 200 db vb j2 S3 [RW.ab, ⟨#[]⟩, RW.zs 95] false w w' ∧ JW K B b 200 db vb jb S3 [RW.ab, ⟨#[]⟩, RW.zs 95] false w w' from by
    obtain ⟨pv, hd⟩ := hJw8.out.d
    refine (open_inv hks hd hI3.out (hnx.out _ hJw8.out.bel).1 (hnx.out _ hJw8.out.bel).2).mono ?_
    rintro e w' ⟨j2, h1, h2, h3⟩
    exact ⟨j2, h1, ⟨h2.d, h2.j, hJw8.out.bel.trans h2.bel⟩, hJw8.out.tch h2.d h3 h2.bel⟩)
  go_upto_region 12 with (go_at_call 26; refine hOp.out.mono ?_; rintro e w9 ⟨j2, rfl, h2, h3⟩; have hL9 := hide h2; have hJ9 := hide h3; clear h2 h3)
  clear hOp hJw8
  have hWr := hide (show Calls Tryz.prog 14 #[.pointer (some ⟨b, 0, none⟩), .int .i64 0, .string ⟨#[2]⟩] w9 fun e w' => e = .returned (.int .i64 0) ∧ JW K B b 200 db vb j2 S4 [RW.ab, ⟨#[]⟩, RW.zs 95] false w w' ∧ JW K B b 200 db vb jb S4 [RW.ab, ⟨#[]⟩, RW.zs 95] false w w' from by
    refine (hJ9.out.write 0 ⟨#[2]⟩ (by rw [hI3.out.pend]; decide) (by decide)).mono ?_
    rintro e w' ⟨h1, h2, h3, h4⟩
    rw [hW4.out] at h1 h2
    exact ⟨h1, hL9.out.tch h2.d h4 h3, h2⟩)
  go_upto_region 13 with (go_at_call 14; refine hWr.out.mono ?_; rintro e w10 ⟨rfl, h2, h3⟩; have hL10 := hide h2; have hJ10 := hide h3; clear h2 h3)
  clear hWr hL9 hJ9
  have hOb := hide (show Calls Tryz.prog 26 #[.pointer (some ⟨b, 0, none⟩)] w10 fun e w' => e = .returned (.tuple #[.pointer none, .int .i64 232]) ∧ JW K B b 200 db vb j2 S4 [RW.ab, ⟨#[]⟩, RW.zs 95] false w w' ∧ JW K B b 200 db vb jb S4 [RW.ab, ⟨#[]⟩, RW.zs 95] false w w' from by
    obtain ⟨pv, hd⟩ := hJ10.out.d
    refine (Open_any B b 200 db vb pv S4 a K ks hks w10 hd (by rw [hp4.out]; decide) (hnx.out _ hJ10.out.bel).1 (hnx.out _ hJ10.out.bel).2).mono ?_
    rintro e w' ⟨h1, h2, h3, h4⟩
    rw [hO4.out] at h1 h4
    rcases h4 with ⟨_, _, h5⟩ | ⟨_, _, _, _, h5, _⟩
    · exact ⟨h5, hL10.out.tch h1 h2 h3, hJ10.out.tch h1 h2 h3⟩
    · cases h5)
  go_upto_region 14 with (go_at_call 26; refine hOb.out.mono ?_; rintro e w11 ⟨rfl, h2, h3⟩; have hL11 := hide h2; have hJ11 := hide h3; clear h2 h3)
  clear hOb hL10 hJ10
  go_upto_region 15 with (go_at_call 26; refine (Open_nil _).mono ?_; rintro e w12 ⟨rfl, rfl⟩)
  have hRm3 := hide (hJ11.out.room (by rw [h200.out]; decide))
  rw [h200.out, show (((200 : Nat) : Int) - ((200 : Nat) : Int)) = 0 from rfl] at hRm3
  have hRc3 := hide (fun W (h : JW K B b 200 db vb j2 S4 [RW.ab, ⟨#[]⟩, RW.zs 95] false w W) => h.records (by rw [h200.out]; decide))
  have eab : RW.ab = ⟨#[97, 98]⟩ := rfl
  go_wp2_with (first
    | (go_at_call 21; refine hRm3.out.mono ?_; rintro e w13 ⟨rfl, h4, h5⟩; have hL13 := hide (hL11.out.next h5); clear h4 h5)
    | (go_at_call 20; refine (hRc3.out _ hL13.out).mono ?_; rintro e w14 ⟨u, rfl, h3, h4, h5⟩; obtain ⟨g, o, c, eu, hc⟩ := strR_cell (W' := w14) (strs_own h3) (show [RW.ab, ⟨#[]⟩, RW.zs 95][0]? = some RW.ab from rfl); subst eu; have cc := hc _ (Below.refl _ _); rw [eab, Nat.add_zero] at cc; have hL13 := hide h4; clear h3 h4 h5 hc))
  go_ret
  exact ⟨rfl, hL13.out.bel⟩
end Go.Proofs.YtllbphanfahkkaaGreatDoor

/-
  What the rows' list of package variables gives a walk (the digest's table, the journal's error), and one world that holds them so.
-/
namespace Go.Proofs.YtllbphanfahkkaaGreatDoor
open Go.ChangeShapes Go.WideShapes Go.ChangeAt Go.RowKit
theorem own : ownKnob Tryz.prog.godebug = none := by kernel_rfl
theorem gK : Tryz.prog.globalNamed "royalty/digest.round" = some 4 := by kernel_rfl
theorem gKType : (Tryz.prog.globals[4]?).map (·.type) = some 262 := by kernel_rfl
theorem gE : Tryz.prog.globalNamed "royalty/journal.errDamaged" = some 1 := by kernel_rfl
theorem gEType : (Tryz.prog.globals[1]?).map (·.type) = some 91 := by kernel_rfl
theorem cellsK : Tryz.prog.cellsOf 262 = 64 := by kernel_rfl
theorem cellsU : Tryz.prog.cellsOf 119 = 1 := by kernel_rfl
theorem cellsS : Tryz.prog.cellsOf 9 = 1 := by kernel_rfl
theorem cellsES : Tryz.prog.cellsOf 304 = 1 := by kernel_rfl
theorem star : "*" ++ "errors.errorString" = "*errors.errorString" := by decide
theorem rowES (u : TypeId) (h : Tryz.prog.typeName? 3 u = some "*errors.errorString") : u = 282 :=
  typeName_ptr_named (nm := "errors.errorString") (by rw [star]; kernel_rfl) (by kernel_rfl) (by decide) u (by rw [star]; exact h)
namespace RW
def numOf : DataW Unit → Int
  | .lit (.int _ z) => z
  | _ => 0
def numsOf : DataW Unit → List Int
  | .agg l => l.map numOf
  | _ => []
def leaf : DataW Unit → List Value
  | .lit (.int k z) => [.int k z]
  | _ => []
def leafs : DataW Unit → List Value
  | .agg l => l.flatMap fun d => match d with
    | .agg m => m.flatMap leaf
    | d => leaf d
  | _ => []
def kNums : List Int := numsOf Rows.laid_royalty_digest_round
def kFun (i : Nat) : Int := kNums.getD i 0
def kCells : Array Value := (kNums.map fun z => Value.int .u32 z).toArray
theorem kNums_len : kNums.length = 64 := by kernel_rfl
theorem k_data : (Rows.laid_royalty_digest_round : DataW Unit) = Lib.tabData .u32 kNums := by kernel_rfl
theorem k_ok : WsOk kCells kFun := by
  refine ⟨by simp [kCells, kNums_len], fun i hi => ?_⟩
  have h : i < kNums.length := by rw [kNums_len]; exact hi
  simp [kCells, kFun, List.getD, List.getElem?_eq_getElem h]
end RW
/-- what each row lists -/
def laidL : List (String × DataW Unit) := [("unicode/utf8.acceptRanges", Rows.laid_unicode_utf8_acceptRanges), ("royalty/digest.round", Rows.laid_royalty_digest_round), ("royalty/journal.errDamaged", Rows.laid_royalty_journal_errDamaged), ("unicode/utf8.first", Rows.laid_unicode_utf8_first)]
theorem laid_met_of {W : World} (h : laidMetH Tryz.prog laidL W) : KLaid W RW.kCells ∧ ∃ a, W.cell? ⟨1, 0, none⟩ = some (RW.jeW a) := by
  have h1 : laidMet Tryz.prog laidL W := h
  have h1t := laidMet.tail h1
  constructor
  · have h2 : laidMet Tryz.prog (("royalty/digest.round", Lib.tabData .u32 RW.kNums) :: [("royalty/journal.errDamaged", Rows.laid_royalty_journal_errDamaged), ("unicode/utf8.first", Rows.laid_unicode_utf8_first)]) W := by rw [← RW.k_data]; exact h1t
    have h3 : W.var? Tryz.prog "royalty/digest.round" = some RW.kCells := Lib.tabIs_of_head gK gKType Tryz.underlying262 Tryz.underlying119 cellsU cellsK h2
    unfold World.var? at h3
    rw [gK] at h3
    simp only [Option.bind_some] at h3
    split at h3
    · rename_i cs t fr hh
      cases h3
      exact ⟨_, _, hh⟩
    · cases h3
  · obtain ⟨a, s, hv, _⟩ := laid_sentinel (laidMet.tail h1t) gE gEType Tryz.underlying91 rowES Tryz.underlying282 Tryz.underlying304 rfl rfl Tryz.underlying9 cellsES cellsS
    exact ⟨a, by simpa [RW.jeW] using World.var?_cell gE hv 0⟩
noncomputable def low : Nat := (World.holding Tryz.prog default ⟨#[], #[], []⟩).heap.size
/-- a world that holds them so -/
noncomputable def laidWorld (os : Os) : World :=
  let w0 := World.holding Tryz.prog os ⟨#[.cells #[.string ⟨#[100, 97, 109, 97, 103, 101, 100]⟩] 304], #[], []⟩
  { w0 with heap := (((w0.heap.modify 1 fun
      | .cells _ t frozen => .cells #[.iface 282 (.pointer (some ⟨low, 0, none⟩))] t frozen
      | o => o).modify 4 fun
      | .cells _ t frozen => .cells RW.kCells t frozen
      | o => o).modify 3 fun
      | .cells _ t frozen => .cells (RW.leafs Rows.laid_unicode_utf8_acceptRanges).toArray t frozen
      | o => o).modify 2 fun
      | .cells _ t frozen => .cells (RW.leafs Rows.laid_unicode_utf8_first).toArray t frozen
      | o => o }
theorem laid_met (os : Os) (args : Array Value) : laidMet Tryz.prog laidL ((laidWorld os).forCall (fun _ _ => 0) ⟨#[], args, []⟩).memory :=
  laidMet_of_run' 8 (by kernel_rfl) (by kernel_rfl)
end Go.Proofs.YtllbphanfahkkaaGreatDoor

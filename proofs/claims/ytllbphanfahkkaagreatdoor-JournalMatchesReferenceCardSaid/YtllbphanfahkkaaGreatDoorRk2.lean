/-
  Package royaltyref22: New, Cut, Visible: what they return, what they change.
-/
import Derived.Test.YtllbphanfahkkaaGreatDoorRk1
import Derived.Test.YtllbphanfahkkaaGreatDoorDk14P
namespace Go.Proofs.YtllbphanfahkkaaGreatDoor
open Go.RowKit RG
theorem zeroes_byl (k : Nat) : Builtin.zeroCells #[Value.int .u8 0] k = (RW.byl (List.replicate k 0)).toArray := by
  apply Array.ext
  · rw [size_zeroCells]; simp [RW.byl]
  · intro i h1 h2
    simp [Builtin.zeroCells, RW.byl]
    rw [Nat.mod_one]; rfl
theorem by_info : (Tryz.prog.info? 5).map (fun i => (i.zero, i.size, i.bytes)) = some (some (.int .u8 0), 1, 1) := by kernel_rfl
theorem byl_cellsAt {w : World} {sb : Nat} {L : List UInt8} (hs : w.heap[sb]? = some (.cells (RW.byl L).toArray 5 (0, 0))) (n : Nat) : ∀ j v, (RW.byl (L.take n))[j]? = some v → w.cell? ((⟨sb, 0, none⟩ : Addr).add j) = some v := by
  intro j v hj
  rw [show (⟨sb, 0, none⟩ : Addr).add j = ⟨sb, j, none⟩ by simp [Addr.add]; intro h; exact h.symm, cellAt hs, List.getElem?_toArray]
  rw [RW.byl, List.getElem?_map, List.getElem?_take] at hj
  rw [RW.byl, List.getElem?_map]
  split at hj
  · exact hj
  · cases hj
theorem run_app_vis (ty : TypeId) (w : World) (L : List UInt8) (sb g0 n c : Nat) (h1 : 1 ≤ n) (hn : n ≤ 4194304) (hln : n ≤ L.length) (hs : w.heap[sb]? = some (.cells (RW.byl L).toArray 5 (0, 0))) :
    ∃ L', (Builtin.append_ #[39, 39] ty #[.slice (some ⟨g0, 0, none⟩) 0 0, .slice (some ⟨sb, 0, none⟩) n c]).run Tryz.prog w = .ok (.slice (some ⟨w.heap.size, 0, none⟩) n L'.length) (w.drew.alloc (.cells (RW.byl L').toArray 5)) ∧ L'.take n = L.take n ∧ n ≤ L'.length := by
  obtain ⟨i, hi, hz, hsz, hb⟩ := info_parts by_info
  have hl : (RW.byl (L.take n)).length = n := by rw [byl_len, List.length_take]; omega
  have hr := run_append_grow (P := Tryz.prog) w 39 ty 5 i (.int .u8 0) Tryz.underlying39 hi hz ⟨g0, 0, none⟩ 0 0 [] (by simp) (by simp) ⟨sb, 0, none⟩ n c (RW.byl (L.take n)) (by rw [hl, hsz]; omega) (byl_cellsAt hs n) (by omega) (by omega) (by rw [Nat.zero_add, nextslicecap_zero (by omega), hb]; omega)
  rw [Nat.zero_add] at hr
  have hge := grownCap_ge w n 0 5
  refine ⟨L.take n ++ List.replicate (grownCap w n 0 5 - n) 0, ?_, ?_, ?_⟩
  · rw [hr]
    have hlen : (L.take n ++ List.replicate (grownCap w n 0 5 - n) (0 : UInt8)).length = grownCap w n 0 5 := by
      rw [List.length_append, List.length_take, List.length_replicate]; omega
    have hcs : #[] ++ (RW.byl (L.take n)).toArray ++ Builtin.zeroCells #[Value.int .u8 0] (grownCap w n 0 5 - n) = (RW.byl (L.take n ++ List.replicate (grownCap w n 0 5 - n) 0)).toArray := by
      rw [zeroes_byl]
      simp [RW.byl]
    rw [hlen, ← hcs]
    rfl
  · rw [List.take_append_of_le_length (by rw [List.length_take]; omega), List.take_take, Nat.min_self]
  · rw [List.length_append, List.length_take]; omega
set_option maxRecDepth 10000 in
set_option maxHeartbeats 1000000 in
theorem rnew_any (n : Nat) (h1 : 1 ≤ n) (hn : n ≤ 4194304) (w : World) : Calls Tryz.prog 38 #[.int .i64 (n : Int)] w fun e w' => ∃ b, e = .returned (.tuple #[.pointer (some ⟨b, 0, none⟩), .int .i64 0]) ∧ (∃ sb, RefAt w' w.heap.size b n sb (List.replicate n 0) (.slice none 0 0) (RW.dk0 n)) ∧ Below w.heap.size w w' := by
  have h1i : ¬ (n : Int) < 1 := by omega
  have h2i : ¬ 4194304 < (n : Int) := by omega
  have hmk := run_make_by n hn w
  have hnH := hide hn
  obtain ⟨sb, hsb⟩ : ∃ b, b = w.heap.size := ⟨_, rfl⟩
  have hA := hide ((Below.refl w.heap.size w).alloc (Nat.le_refl _) (.cells (RW.byl (List.replicate n 0)).toArray 5))
  have hs0 := hide (show (w.alloc (.cells (RW.byl (List.replicate n 0)).toArray 5)).heap[sb]? = some (.cells (RW.byl (List.replicate n 0)).toArray 5 (0, 0)) from newAt hsb)
  have hsbH := hide hsb
  clear h1 hn hsb
  go_enter Tryz.func38, Tryz.ntmps38
  go_wp2
  refine bodyPost_ret (results_tmp2 rfl _ _ _) rfl ⟨w.heap.size + 1, rfl, ⟨sb, ?_⟩, ?_⟩
  · rw [← hsbH.out]
    refine ⟨?_, ?_, by simp; rfl, by simp, World.ownsRow_nil _ _ _ _, by omega, Nat.le_refl _, hnH.out, by show (0 : Int) ≤ _; decide⟩
    · refine (newAt (by simp; exact hsbH.out)).trans ?_
      simp
      exact ⟨rfl, rfl⟩
    · exact (Below.heap_alloc _ _ _ (Array.getElem?_eq_some_iff.1 hs0.out).1).trans hs0.out
  · exact hA.out.alloc (by simp) _
set_option maxRecDepth 10000 in
set_option maxHeartbeats 1000000 in
theorem rcut_any (B b n sb : Nat) (L : List UInt8) (pv : Value) (S : RW.Dk) (k : Int) (hk : k ≤ 9223372036854775807) (w : World) (h : RefAt w B b n sb L pv S) :
    Calls Tryz.prog 71 #[.pointer (some ⟨b, 0, none⟩), .int .i64 k] w fun e w' => e = .returned (.int .i64 (S.cut k).1) ∧ RefAt w' B b n sb L pv (S.cut k).2 ∧ RFr b sb w sb w' ∧ Below B w w' := by
  have hH := hide h
  obtain ⟨r, hr⟩ : ∃ r, r = S.cut k := ⟨_, rfl⟩
  rw [← hr]
  rw [RW.Dk.cut] at hr
  have c2 : w.cell? ⟨b, 2, none⟩ = some (.bool S.off) := cellAt h.row 2
  have c3 : w.cell? ⟨b, 3, none⟩ = some (.int .i64 (S.left : Int)) := cellAt h.row 3
  have f2 : w.frozen? ⟨b, 2, none⟩ = false := by simp [World.frozen?, h.row]
  have f3 : w.frozen? ⟨b, 3, none⟩ = false := by simp [World.frozen?, h.row]
  cases hoff : S.off
  · rw [hoff, if_neg Bool.false_ne_true] at hr
    rw [hoff] at c2
    have hoffH := hide hoff
    by_cases hk0 : k < 0
    · rw [if_pos hk0] at hr
      have hrH := hide hr
      clear hr h hoff
      go_enter Tryz.func71, Tryz.ntmps71
      go_wp2
      go_ret
      exact ⟨by rw [hrH.out] <;> rfl, by rw [hrH.out]; exact hH.out, RFr.refl _ _ _, Below.refl _ _⟩
    · rw [if_neg hk0] at hr
      have hrH := hide hr
      clear hr h hoff
      go_enter Tryz.func71, Tryz.ntmps71
      go_wp2
      go_ret
      have hkb : (k == 0) = decide (k = 0) := by
        by_cases h : k = 0
        · subst h; rfl
        · rw [decide_eq_false h, beq_eq_false_iff_ne]; exact h
      have hkn : ((k.toNat : Nat) : Int) = k := Int.toNat_of_nonneg (by omega)
      obtain ⟨k1, k2, k3⟩ := hH.out.rowChg (off := decide (k = 0)) (left := k.toNat) (v := S.vis) (W' := (w.setCell ⟨b, 3, none⟩ (.int .i64 k)).setCell ⟨b, 2, none⟩ (.bool (k == 0))) ((heap_setCell_same _ _ _ _ _ _ (heap_setCell_same _ _ _ _ _ _ hH.out.row)).trans (by rw [hkn, ← hkb]; rfl)) (((Chg.refl b w).set _).set _) (by rw [hkn]; exact hk)
      exact ⟨by rw [hrH.out] <;> rfl, by rw [hrH.out]; exact k1, k2, k3⟩
  · rw [hoff, if_pos rfl] at hr
    rw [hoff] at c2
    have hrH := hide hr
    clear hr h hoff
    go_enter Tryz.func71, Tryz.ntmps71
    go_wp2
    go_ret
    exact ⟨by rw [hrH.out] <;> rfl, by rw [hrH.out]; exact hH.out, RFr.refl _ _ _, Below.refl _ _⟩
section
variable {ev : Operand → Value} {o : Oper} {x y : Operand} {w : World}
theorem op_fa_r {b i : Nat} (hi : i < 4) (ho : o.op = .fieldAddr 67 x i) (hx : ev x = .pointer (some ⟨b, 0, none⟩)) : (execOp ev o).run Tryz.prog w = .ok (.value (.pointer (some ⟨b, i, none⟩))) w := by
  rcases i with _ | _ | _ | _ | i
  all_goals first | omega | skip
  all_goals
    unfold execOp
    rw [ho]
    simp only [hx]
    go_simp
theorem op_load_cs {b i : Nat} {p : Option Addr} {n c : Nat} (ho : o.op = .load 65 x) (hx : ev x = .pointer (some ⟨b, i, none⟩)) (hc : w.cell? ⟨b, i, none⟩ = some (.slice p n c)) : (execOp ev o).run Tryz.prog w = .ok (.value (.slice p n c)) w := by
  unfold execOp
  rw [ho]
  simp only [hx]
  go_simp
theorem op_idx_ch {b ao i n c : Nat} (ho : o.op = .indexAddr 65 x y) (hx : ev x = .slice (some ⟨b, ao, none⟩) n c) (hy : ev y = .int .i64 i) (hi : i < n) : (execOp ev o).run Tryz.prog w = .ok (.value (.pointer (some ⟨b, ao + i * 2, none⟩))) w := by
  unfold execOp
  rw [ho]
  simp only [hx, hy]
  go_simp
theorem op_fa_c0 {b i : Nat} (ho : o.op = .fieldAddr 111 x 0) (hx : ev x = .pointer (some ⟨b, i, none⟩)) : (execOp ev o).run Tryz.prog w = .ok (.value (.pointer (some ⟨b, i, none⟩))) w := by
  unfold execOp
  rw [ho]
  simp only [hx]
  go_simp
theorem op_fa_c1 {b i : Nat} (ho : o.op = .fieldAddr 111 x 1) (hx : ev x = .pointer (some ⟨b, i, none⟩)) : (execOp ev o).run Tryz.prog w = .ok (.value (.pointer (some ⟨b, i + 1, none⟩))) w := by
  unfold execOp
  rw [ho]
  simp only [hx]
  go_simp
end
theorem rowV_cell2 {W : World} {a : Option Addr} {g o k c : Nat} {l : List (Nat × ByteArray)} (h : RowV 2 RW.wrl W (.slice (some ⟨g, o, none⟩) k c) l) (j : Nat) (x : Nat × ByteArray) (hx : l[j]? = some x) : W.cell? ⟨g, o + j * 2, none⟩ = some (.int .i64 (x.1 : Int)) ∧ W.cell? ⟨g, o + j * 2 + 1, none⟩ = some (.string x.2) := by
  obtain ⟨a', c', he, _, ha⟩ := h
  injection he with e1 _ _
  subst e1
  obtain ⟨b', o', e, _, hc⟩ := ha.resolve_left (by rintro rfl; simp at hx)
  cases e
  exact ⟨hc j x hx 0 _ rfl, hc j x hx 1 _ rfl⟩
theorem RefAt.cells {W : World} {B b n sb g o k c : Nat} {L : List UInt8} {S : RW.Dk} (h : RefAt W B b n sb L (.slice (some ⟨g, o, none⟩) k c) S) (j : Nat) (x : Nat × ByteArray) (hx : S.pend[j]? = some x) : W.cell? ⟨g, o + j * 2, none⟩ = some (.int .i64 (x.1 : Int)) ∧ W.cell? ⟨g, o + j * 2 + 1, none⟩ = some (.string x.2) :=
  rowV_cell2 (a := none) (rowV_own (enc := RW.wrl) wrl_len (by decide) h.pend) j x hx
theorem replay_len : ∀ (p : List (Nat × ByteArray)) (d : List UInt8) (n : Nat), d.length = n → (∀ x ∈ p, x.1 + x.2.size ≤ n) → (RW.replay p d).length = n
  | [], d, n, hd, _ => hd
  | x :: p, d, n, hd, h => replay_len p _ n (by rw [lay_len (by rw [hd, Array.length_toList]; exact h x (List.mem_cons_self ..)), hd]) (fun y hy => h y (List.mem_cons_of_mem _ hy))
set_option maxRecDepth 10000 in
set_option maxHeartbeats 1000000 in
theorem visible_any (B b n sb : Nat) (L : List UInt8) (pv : Value) (S : RW.Dk) (hn1 : 1 ≤ n) (hok : S.ok n) (hpl : S.pend.length ≤ 1000000) (w : World) (h : RefAt w B b n sb L pv S) :
    Calls Tryz.prog 24 #[.pointer (some ⟨b, 0, none⟩)] w fun e w' => ∃ g L', e = .returned (.slice (some ⟨g, 0, none⟩) n L'.length) ∧ w'.heap[g]? = some (.cells (RW.byl L').toArray 5 (0, 0)) ∧ L'.take n = RW.replay S.pend S.dur ∧ n ≤ L'.length ∧ w.heap.size ≤ g ∧ Below w.heap.size w w' := by
  obtain ⟨ap, cp, rfl⟩ := h.form
  obtain ⟨kp, hkp⟩ : ∃ k, k = S.pend.length := ⟨_, rfl⟩
  rw [← hkp] at h hpl
  have hH := hide h
  have hokH := hide hok
  have hkpH := hide hkp
  have c0 : w.cell? ⟨b, 0, none⟩ = some (.slice (some ⟨sb, 0, none⟩) n L.length) := cellAt h.row 0
  have hlt := h.lt.1
  obtain ⟨L', hrun, hL1, hL2⟩ := run_app_vis 39 (w.alloc (.cells #[] 5)) L sb w.heap.size n L.length hn1 h.hn h.ln ((Below.heap_alloc _ _ _ h.lt.2).trans h.sure)
  have hL1H := hide (hL1.trans h.ld)
  have hA := hide (((Below.refl w.heap.size w).alloc (Nat.le_refl _) (.cells #[] 5)).drew.alloc (by simp) (.cells (RW.byl L').toArray 5))
  obtain ⟨g, hg⟩ : ∃ g, g = (w.alloc (.cells #[] 5)).heap.size := ⟨_, rfl⟩
  have hgl := hide (show w.heap.size ≤ g by rw [hg]; simp)
  have hg0 := hide (show ((w.alloc (.cells #[] 5)).drew.alloc (.cells (RW.byl L').toArray 5)).heap[g]? = some (.cells (RW.byl L').toArray 5 (0, 0)) from newAt hg)
  rw [← hg] at hrun
  clear h hok hkp hL1 hg
  go_enter Tryz.func24, Tryz.ntmps24
  go_upto_region 2 with (at_builtin; refine wpList_app_run rfl (.tmp 5) (.tmp 9) rfl rfl rfl hrun ?_)
  obtain ⟨c, hc⟩ : ∃ c, c = L'.length := ⟨_, rfl⟩
  refine gen_w (fun W => W.heap[g]? = some (.cells (RW.byl L').toArray 5 (0, 0)) ∧ Below w.heap.size w W) ⟨hg0.out, hA.out⟩ ?_
  rw [← hc]
  rintro w1 ⟨g1, g2⟩
  have hg1 := hide g1
  have hB1 := hide g2
  have hcH := hide hc
  have hL2H := hide hL2
  clear g1 g2 hrun hg0 hA c0 hlt hc hL2
  go_wp2
  go_loopw [4] (fun i wr => ∃ j : Nat, i = .int .i64 j ∧ j ≤ kp ∧ Hid (∃ Lj, wr.heap[g]? = some (.cells (RW.byl Lj).toArray 5 (0, 0)) ∧ Lj.length = c ∧ Lj.take n = RW.replay (S.pend.take j) S.dur ∧ RefAt wr B b n sb L (.slice ap kp cp) S ∧ Below w.heap.size w wr)) (fun i _ => kp - (intOf i).toNat)
  case atStart => exact ⟨0, rfl, Nat.zero_le _, L', hg1.out, hcH.out.symm, hL1H.out, hH.out.next hB1.out, hB1.out⟩
  case round =>
    obtain ⟨j, rfl, hj, hQ⟩ := hrel
    obtain ⟨wo, hwo⟩ : ∃ wo, wo = wr := ⟨_, rfl⟩
    subst hwo
    obtain ⟨Lj, hgj0, hcj0, htj0, hRj0, hBj0⟩ := hQ.out
    have hgj := hide hgj0
    have hcj := hide hcj0
    have htj := hide htj0
    have hRj := hide hRj0
    have hBj := hide hBj0
    have c1 : wo.cell? ⟨b, 1, none⟩ = some (.slice ap kp cp) := cellAt hRj0.row 1
    clear hg1 hB1 hQ hgj0 hcj0 htj0 hRj0 hBj0
    by_cases hlt : j < kp
    · have hltH := hide hlt
      obtain ⟨x, hx⟩ : ∃ x, S.pend[j]? = some x := ⟨_, List.getElem?_eq_getElem (by rw [← hkpH.out]; exact hlt)⟩
      have hxp := hide hx
      have hbx := hide (hokH.out x (List.mem_of_getElem? hx))
      have hlj := hide (show n ≤ Lj.length by rw [hcj.out, hcH.out]; exact hL2H.out)
      obtain ⟨pg, po, cap, he, _, _, _⟩ := (rowV_own (enc := RW.wrl) wrl_len (by decide) hRj.out.pend).at (by rintro e; rw [e] at hx; simp at hx)
      obtain ⟨rfl, rfl⟩ : ap = some ⟨pg, po, none⟩ ∧ cp = cap := by injection he; exact ⟨by assumption, by assumption⟩
      have hgn := hide (show b ≠ g ∧ sb ≠ g ∧ ∀ k, (Value.slice (some ⟨pg, po, none⟩) kp cp).ownBlock = some k → k ≠ g from
        ⟨Nat.ne_of_lt (Nat.lt_of_lt_of_le hH.out.lt.1 hgl.out), Nat.ne_of_lt (Nat.lt_of_lt_of_le hH.out.lt.2 hgl.out), fun k hk => Nat.ne_of_lt (Nat.lt_of_lt_of_le (hH.out.pend.lt k hk).2 hgl.out)⟩)
      clear hx he
      go_upto_region 5 with fail
      refine wp_region_k (fun _ W => RefAt W B b n sb L (.slice (some ⟨pg, po, none⟩) kp cp) S) (fun W => W.heap[g]? = some (.cells (RW.byl Lj).toArray 5 (0, 0)) ∧ Below w.heap.size w W) [17] (.op 0 (.op 1 (.op 2 (.op 3 (.op 4 (.op 5 (.op 6 (.op 7 (.op 8 (.op 9 (.op 10 (.op 11 (.op 12 (.op 13 (.op 14 (.op 15 (.op 16 (.op 17 .nil)))))))))))))))))) (by kernel_rfl) (by kernel_rfl) (by rfl) (by kernel_rfl) (hRj.out.next (Below.refl _ _).drew) ⟨hgj.out, hBj.out.drew⟩ ?_
      refine k_val (.slice (some ⟨g, 0, none⟩) n c) (by apply opN; repeat' (first | apply OpAt.z | apply OpAt.s)) (by rfl) (by rfl) (fun _ W hS => op_mv rfl rfl) ?_
      simp only [Act.put, List.setIfInBounds_toArray, List.set_cons_zero, List.set_cons_succ]
      refine k_val (.pointer (some ⟨b, 0, none⟩)) (by apply opN; repeat' (first | apply OpAt.z | apply OpAt.s)) (by rfl) (by rfl) (fun _ W hS => op_mv rfl rfl) ?_
      simp only [Act.put, List.setIfInBounds_toArray, List.set_cons_zero, List.set_cons_succ]
      refine k_val (.pointer (some ⟨b, 0, none⟩)) (by apply opN; repeat' (first | apply OpAt.z | apply OpAt.s)) (by rfl) (by rfl) (fun _ W hS => op_nc rfl rfl) ?_
      simp only [Act.put, List.setIfInBounds_toArray, List.set_cons_zero, List.set_cons_succ]
      refine k_val (.pointer (some ⟨b, 1, none⟩)) (by apply opN; repeat' (first | apply OpAt.z | apply OpAt.s)) (by rfl) (by rfl) (fun _ W hS => op_fa_r (by decide) rfl rfl) ?_
      simp only [Act.put, List.setIfInBounds_toArray, List.set_cons_zero, List.set_cons_succ]
      refine k_val (.slice (some ⟨pg, po, none⟩) kp cp) (by apply opN; repeat' (first | apply OpAt.z | apply OpAt.s)) (by rfl) (by rfl) (fun _ W hS => op_load_cs rfl rfl (cellAt hS.row 1)) ?_
      simp only [Act.put, List.setIfInBounds_toArray, List.set_cons_zero, List.set_cons_succ]
      refine k_val (.int .i64 (j : Int)) (by apply opN; repeat' (first | apply OpAt.z | apply OpAt.s)) (by rfl) (by rfl) (fun _ W hS => op_mv rfl rfl) ?_
      simp only [Act.put, List.setIfInBounds_toArray, List.set_cons_zero, List.set_cons_succ]
      refine k_val (.pointer (some ⟨pg, po + j * 2, none⟩)) (by apply opN; repeat' (first | apply OpAt.z | apply OpAt.s)) (by rfl) (by rfl) (fun _ W hS => op_idx_ch rfl rfl rfl hlt) ?_
      simp only [Act.put, List.setIfInBounds_toArray, List.set_cons_zero, List.set_cons_succ]
      refine k_val (.pointer (some ⟨pg, po + j * 2, none⟩)) (by apply opN; repeat' (first | apply OpAt.z | apply OpAt.s)) (by rfl) (by rfl) (fun _ W hS => op_fa_c0 rfl rfl) ?_
      simp only [Act.put, List.setIfInBounds_toArray, List.set_cons_zero, List.set_cons_succ]
      refine k_val (.int .i64 (x.1 : Int)) (by apply opN; repeat' (first | apply OpAt.z | apply OpAt.s)) (by rfl) (by rfl) (fun _ W hS => op_load_int rfl rfl (hS.cells j x hxp.out).1) ?_
      simp only [Act.put, List.setIfInBounds_toArray, List.set_cons_zero, List.set_cons_succ]
      refine k_val (.pointer (some ⟨b, 0, none⟩)) (by apply opN; repeat' (first | apply OpAt.z | apply OpAt.s)) (by rfl) (by rfl) (fun _ W hS => op_mv rfl rfl) ?_
      simp only [Act.put, List.setIfInBounds_toArray, List.set_cons_zero, List.set_cons_succ]
      refine k_val (.pointer (some ⟨b, 0, none⟩)) (by apply opN; repeat' (first | apply OpAt.z | apply OpAt.s)) (by rfl) (by rfl) (fun _ W hS => op_nc rfl rfl) ?_
      simp only [Act.put, List.setIfInBounds_toArray, List.set_cons_zero, List.set_cons_succ]
      refine k_val (.pointer (some ⟨b, 1, none⟩)) (by apply opN; repeat' (first | apply OpAt.z | apply OpAt.s)) (by rfl) (by rfl) (fun _ W hS => op_fa_r (by decide) rfl rfl) ?_
      simp only [Act.put, List.setIfInBounds_toArray, List.set_cons_zero, List.set_cons_succ]
      refine k_val (.slice (some ⟨pg, po, none⟩) kp cp) (by apply opN; repeat' (first | apply OpAt.z | apply OpAt.s)) (by rfl) (by rfl) (fun _ W hS => op_load_cs rfl rfl (cellAt hS.row 1)) ?_
      simp only [Act.put, List.setIfInBounds_toArray, List.set_cons_zero, List.set_cons_succ]
      refine k_val (.int .i64 (j : Int)) (by apply opN; repeat' (first | apply OpAt.z | apply OpAt.s)) (by rfl) (by rfl) (fun _ W hS => op_mv rfl rfl) ?_
      simp only [Act.put, List.setIfInBounds_toArray, List.set_cons_zero, List.set_cons_succ]
      refine k_val (.pointer (some ⟨pg, po + j * 2, none⟩)) (by apply opN; repeat' (first | apply OpAt.z | apply OpAt.s)) (by rfl) (by rfl) (fun _ W hS => op_idx_ch rfl rfl rfl hlt) ?_
      simp only [Act.put, List.setIfInBounds_toArray, List.set_cons_zero, List.set_cons_succ]
      refine k_val (.pointer (some ⟨pg, po + j * 2 + 1, none⟩)) (by apply opN; repeat' (first | apply OpAt.z | apply OpAt.s)) (by rfl) (by rfl) (fun _ W hS => op_fa_c1 rfl rfl) ?_
      simp only [Act.put, List.setIfInBounds_toArray, List.set_cons_zero, List.set_cons_succ]
      refine k_val (.string x.2) (by apply opN; repeat' (first | apply OpAt.z | apply OpAt.s)) (by rfl) (by rfl) (fun _ W hS => op_load_str rfl rfl (hS.cells j x hxp.out).2) ?_
      simp only [Act.put, List.setIfInBounds_toArray, List.set_cons_zero, List.set_cons_succ]
      refine k_step (fun K' u => K' = fun W => W.heap[g]? = some (.cells (RW.byl (RW.lay Lj x.1 x.2.data.toList)).toArray 5 (0, 0)) ∧ Below w.heap.size w W) (by apply opN; repeat' (first | apply OpAt.z | apply OpAt.s)) (by rfl) (by rfl) (by rfl) (fun W hC hK => ?_) ?_
      · refine op_x3 rfl rfl rfl rfl rfl (fun _ _ => rfl) ((apply_any g n c Lj x.1 x.2 hH.out.hn hlj.out hbx.out W hK.1).mono ?_)
        rintro e W' ⟨⟨v, rfl⟩, h1, h2⟩
        exact ⟨_, rfl, hC.keep fun k hk hq => h2.block k hk (by rcases hq with e | e | e; exact e ▸ hgn.out.1; exact e ▸ hgn.out.2.1; exact hgn.out.2.2 k e), _, ⟨h1, hK.2.trans (h2.below hgl.out hK.2.size)⟩, rfl⟩
      rintro _ _ rfl
      simp only [Act.put, List.setIfInBounds_toArray, List.set_cons_zero, List.set_cons_succ]
      refine k_nil ?_
      intro W hC hK
      have hCH := hide hC
      have hKH := hide hK
      clear hC hK
      go_wp2
      go_roundw
      case rel => exact ⟨j + 1, by go_num, hltH.out, RW.lay Lj x.1 x.2.data.toList, hKH.out.1, by rw [lay_len (by rw [Array.length_toList]; exact Nat.le_trans hbx.out hlj.out)]; exact hcj.out, by rw [RW.lay_take (by rw [Array.length_toList]; exact hbx.out) hlj.out, htj.out, List.take_add_one, hxp.out]; exact (RW.replay_snoc _ _ _).symm, hCH.out, hKH.out.2⟩
      case measure => have := hltH.out; simp [intOf]; omega
    · obtain rfl : j = kp := by omega
      go_wp2
      go_ret
      exact ⟨g, Lj, by rw [hcj.out] <;> rfl, hgj.out, by rw [htj.out, List.take_of_length_le (by rw [hkpH.out]; exact Nat.le_refl _)], by rw [hcj.out, hcH.out]; exact hL2H.out, hgl.out, hBj.out⟩
end Go.Proofs.YtllbphanfahkkaaGreatDoor

/-
  Package royaltyref23: Room and Append: what they return, what they change.
-/
import Derived.Test.YtllbphanfahkkaaGreatDoorRj2
namespace Go.Proofs.YtllbphanfahkkaaGreatDoor
open Go.RowKit RG
/-- what a call on a journal of the reference may change -/
structure RTch (kb rb sb : Nat) (W : World) (sb' : Nat) (W' : World) : Prop where
  size : W.heap.size ≤ W'.heap.size
  frn : ∀ k, k < W.heap.size → k ≠ kb → k ≠ rb → k ≠ sb → (∀ cur fr, W.heap[k]? ≠ some (.cells cur 111 fr)) → W'.heap[k]? = W.heap[k]? ∧ k ≠ sb'
theorem RTch.of_rfr {kb rb sb sb' : Nat} {W W' : World} (h : RFr rb sb W sb' W') : RTch kb rb sb W sb' W' := ⟨h.size, fun k hk _ h1 h2 h3 => h.frn k hk h1 h2 h3⟩
theorem RTch.of_below {kb rb sb : Nat} {W W' : World} (h : Below W.heap.size W W') : RTch kb rb sb W sb W' := .of_rfr (.of_below h)
theorem RTch.trans {kb rb sb sb' sb'' : Nat} {W W' W'' : World} (h : RTch kb rb sb W sb' W') (g : RTch kb rb sb' W' sb'' W'') : RTch kb rb sb W sb'' W'' :=
  ⟨Nat.le_trans h.size g.size, fun k hk h0 h1 h2 h3 => by
    have e := h.frn k hk h0 h1 h2 h3
    have f := g.frn k (Nat.lt_of_lt_of_le hk h.size) h0 h1 e.2 (by rw [e.1]; exact h3)
    exact ⟨f.1.trans e.1, f.2⟩⟩
theorem RTch.of_chg {kb rb sb : Nat} {W W' : World} (h : Chg kb W W') : RTch kb rb sb W sb W' := ⟨h.size, fun k hk h0 _ h2 _ => ⟨h.block k hk h0, h2⟩⟩
theorem fa_rj {b i : Nat} (hi : i < 4) (W : World) : (Instr.fieldAt 43 (.pointer (some ⟨b, 0, none⟩)) i).run Tryz.prog W = .ok (.pointer (some ⟨b, i, none⟩)) W := by
  match i, hi with
  | 0, _ => go_simp
  | 1, _ => go_simp
  | 2, _ => go_simp
  | 3, _ => go_simp
theorem fa_rd0 {b : Nat} (W : World) : (Instr.fieldAt 67 (.pointer (some ⟨b, 0, none⟩)) 0).run Tryz.prog W = .ok (.pointer (some ⟨b, 0, none⟩)) W := by go_simp
theorem ptr_ldr {W : World} {g i : Nat} {p : Option Addr} (h : W.cell? ⟨g, i, none⟩ = some (.pointer p)) : (ldRow 29 (.pointer (some ⟨g, i, none⟩))).run Tryz.prog W = .ok (.pointer p) W := by
  unfold ldRow
  go_simp
theorem bsl_ld {W : World} {g i : Nat} {a : Option Addr} {n c : Nat} (h : W.cell? ⟨g, i, none⟩ = some (.slice a n c)) : (ldRow 39 (.pointer (some ⟨g, i, none⟩))).run Tryz.prog W = .ok (.slice a n c) W := by
  unfold ldRow
  go_simp
theorem op_lenb {ev : Operand → Value} {o : Oper} {x : Operand} {w : World} {a : Option Addr} {n c : Nat} (ho : o.op = .call { callee := .builtin .len, args := #[x], argTypes := #[39] }) (hx : ev x = .slice a n c) : (execOp ev o).run Tryz.prog w = .ok (.value (.int .i64 n)) w := by
  unfold execOp
  rw [ho]
  go_simp
theorem cf_rwrite : ∀ args w, (callFunc 17 args).run Tryz.prog w = .ok (.enter 17 args) w := fun args w => by go_simp
section
variable {W W' : World} {B kb rb n sb e : Nat} {L : List UInt8} {pv lv : Value} {S : RW.Dk} {rs : List ByteArray} {br : Bool}
theorem RjAt.c0 (h : RjAt W B kb rb lv rs e br) : W.cell? ⟨kb, 0, none⟩ = some (.pointer (some ⟨rb, 0, none⟩)) := cellAt h.row 0
theorem RjAt.c1 (h : RjAt W B kb rb lv rs e br) : W.cell? ⟨kb, 1, none⟩ = some lv := cellAt h.row 1
theorem RjAt.c2 (h : RjAt W B kb rb lv rs e br) : W.cell? ⟨kb, 2, none⟩ = some (.int .i64 (e : Int)) := cellAt h.row 2
theorem RjAt.c3 (h : RjAt W B kb rb lv rs e br) : W.cell? ⟨kb, 3, none⟩ = some (.bool br) := cellAt h.row 3
theorem RefAt.d0 (h : RefAt W B rb n sb L pv S) : W.cell? ⟨rb, 0, none⟩ = some (.slice (some ⟨sb, 0, none⟩) n L.length) := cellAt h.row 0
theorem RjAt.broke (h : RjAt W B kb rb lv rs e br) : RjAt (W.setCell ⟨kb, 3, none⟩ (.bool true)) B kb rb lv rs e true ∧ Chg kb W (W.setCell ⟨kb, 3, none⟩ (.bool true)) := by
  refine ⟨⟨(heap_setCell_same _ _ _ _ _ _ h.row).trans ?_, own_keep h.own fun g hg => ?_, h.hb⟩, (Chg.refl kb W).set _⟩
  · rfl
  · obtain ⟨_, _, c, fr, hc⟩ := own_blk h.own hg
    exact Below.heap_setCell _ _ _ _ (blocks_ne hc h.row (by decide))
theorem RjAt.ne (h : RjAt W B kb rb lv rs e br) (hR : RefAt W B rb n sb L pv S) : kb ≠ rb ∧ kb ≠ sb := ⟨blocks_ne h.row hR.row (by decide), blocks_ne h.row hR.sure (by decide)⟩
theorem RefAt.chgJ (hR : RefAt W B rb n sb L pv S) (h : RjAt W B kb rb lv rs e br) (hc : Chg kb W W') : RefAt W' B rb n sb L pv S :=
  hR.keep fun k hk hq => hc.block k hk (by
    rcases hq with rfl | rfl | hq
    · exact (h.ne hR).1.symm
    · exact (h.ne hR).2.symm
    · obtain ⟨cur, fr, hc'⟩ := hR.pblock hq
      exact blocks_ne hc' h.row (by decide))
end
theorem RW.stos_ge33 {H : List UInt8 → List UInt8} (hH : ∀ l, (H l).length = 32) : ∀ (rs : List ByteArray) (h : List UInt8), 33 * rs.length ≤ (RW.stos H h rs).length
  | [], _ => Nat.zero_le _
  | r :: rs, h => by
    have h1 := RW.stos_ge33 hH rs (RW.chn H h r)
    have h2 := RW.sto_len H hH h r
    show 33 * (rs.length + 1) ≤ (RW.sto H h r ++ RW.stos H (RW.chn H h r) rs).length
    rw [List.length_append]
    omega
theorem own_rtch {W W' : World} {B kb rb n sb sb' e N : Nat} {L : List UInt8} {pv lv u : Value} {S : RW.Dk} {rs l : List ByteArray} {br : Bool} (h : StrsOwn W N u l) (hR : RefAt W B rb n sb L pv S) (hj : RjAt W B kb rb lv rs e br) (hT : RTch kb rb sb W sb' W') : StrsOwn W' N u l :=
  own_keep h fun g hg => by
    obtain ⟨_, hl, c, fr, hc⟩ := own_blk h hg
    exact (hT.frn g hl (blocks_ne hc hj.row (by decide)) (blocks_ne hc hR.row (by decide)) (blocks_ne hc hR.sure (by decide)) (fun cur fr2 e => by rw [hc] at e; injection e with e; injection e with _ e; exact absurd e (by decide))).1
set_option maxRecDepth 10000 in
set_option maxHeartbeats 2000000 in
theorem rroom_any (B kb rb n sb e : Nat) (L : List UInt8) (pv lv : Value) (S : RW.Dk) (rs : List ByteArray) (br : Bool) (he : e ≤ 1000000000) (w : World) (hR : RefAt w B rb n sb L pv S) (hj : RjAt w B kb rb lv rs e br) :
    Calls Tryz.prog 22 #[.pointer (some ⟨kb, 0, none⟩)] w fun r w' => r = .returned (.int .i64 ((n : Int) - (e : Int))) ∧ ∃ k, w' = w.drewN k := by
  have c0 := hide (fun k => (show (w.drewN k).cell? ⟨kb, 0, none⟩ = some (.pointer (some ⟨rb, 0, none⟩)) from hj.c0))
  have c2 := hide (fun k => (show (w.drewN k).cell? ⟨kb, 2, none⟩ = some (.int .i64 (e : Int)) from hj.c2))
  have d0 := hide (fun k => (show (w.drewN k).cell? ⟨rb, 0, none⟩ = some (.slice (some ⟨sb, 0, none⟩) n L.length) from hR.d0))
  have hnn := hR.hn
  clear hR hj
  go_enter Tryz.func22, Tryz.ntmps22
  go_upto_region 1 with fail
  refine wp_region_k (fun _ W => ∃ k, W = w.drewN k) (fun _ => True) [] (.op 0 (.op 1 (.op 2 (.op 3 (.op 4 (.op 5 (.op 6 (.op 7 (.op 8 (.op 9 (.op 10 (.op 11 (.op 12 (.op 13 .nil)))))))))))))) (by kernel_rfl) (by kernel_rfl) (by rfl) (by kernel_rfl) ⟨1, rfl⟩ trivial ?_
  refine k_val (.pointer (some ⟨kb, 0, none⟩)) (by apply opN; repeat' (first | apply OpAt.z | apply OpAt.s)) (by rfl) (by rfl) (fun _ W hS => op_mv rfl rfl) ?_
  simp only [Act.put, List.setIfInBounds_toArray, List.set_cons_zero, List.set_cons_succ]
  refine k_val (.pointer (some ⟨kb, 0, none⟩)) (by apply opN; repeat' (first | apply OpAt.z | apply OpAt.s)) (by rfl) (by rfl) (fun _ W hS => op_nc rfl rfl) ?_
  simp only [Act.put, List.setIfInBounds_toArray, List.set_cons_zero, List.set_cons_succ]
  refine k_val (.pointer (some ⟨kb, 0, none⟩)) (by apply opN; repeat' (first | apply OpAt.z | apply OpAt.s)) (by rfl) (by rfl) (fun _ W hS => op_fa rfl rfl (fa_rj (i := 0) (by decide) W)) ?_
  simp only [Act.put, List.setIfInBounds_toArray, List.set_cons_zero, List.set_cons_succ]
  refine k_val (.pointer (some ⟨rb, 0, none⟩)) (by apply opN; repeat' (first | apply OpAt.z | apply OpAt.s)) (by rfl) (by rfl) (fun _ W hS => op_ld rfl rfl (ptr_ldr (W := W) (by obtain ⟨k, rfl⟩ := hS; exact c0.out k))) ?_
  simp only [Act.put, List.setIfInBounds_toArray, List.set_cons_zero, List.set_cons_succ]
  refine k_val (.pointer (some ⟨rb, 0, none⟩)) (by apply opN; repeat' (first | apply OpAt.z | apply OpAt.s)) (by rfl) (by rfl) (fun _ W hS => op_nc rfl rfl) ?_
  simp only [Act.put, List.setIfInBounds_toArray, List.set_cons_zero, List.set_cons_succ]
  refine k_val (.pointer (some ⟨rb, 0, none⟩)) (by apply opN; repeat' (first | apply OpAt.z | apply OpAt.s)) (by rfl) (by rfl) (fun _ W hS => op_fa rfl rfl (fa_rd0 W)) ?_
  simp only [Act.put, List.setIfInBounds_toArray, List.set_cons_zero, List.set_cons_succ]
  refine k_val (.slice (some ⟨sb, 0, none⟩) n L.length) (by apply opN; repeat' (first | apply OpAt.z | apply OpAt.s)) (by rfl) (by rfl) (fun _ W hS => op_ld rfl rfl (bsl_ld (W := W) (by obtain ⟨k, rfl⟩ := hS; exact d0.out k))) ?_
  simp only [Act.put, List.setIfInBounds_toArray, List.set_cons_zero, List.set_cons_succ]
  refine k_val (.int .i64 (n : Int)) (by apply opN; repeat' (first | apply OpAt.z | apply OpAt.s)) (by rfl) (by rfl) (fun _ W hS => op_lenb rfl rfl) ?_
  simp only [Act.put, List.setIfInBounds_toArray, List.set_cons_zero, List.set_cons_succ]
  refine k_val (.pointer (some ⟨kb, 0, none⟩)) (by apply opN; repeat' (first | apply OpAt.z | apply OpAt.s)) (by rfl) (by rfl) (fun _ W hS => op_mv rfl rfl) ?_
  simp only [Act.put, List.setIfInBounds_toArray, List.set_cons_zero, List.set_cons_succ]
  refine k_val (.pointer (some ⟨kb, 0, none⟩)) (by apply opN; repeat' (first | apply OpAt.z | apply OpAt.s)) (by rfl) (by rfl) (fun _ W hS => op_nc rfl rfl) ?_
  simp only [Act.put, List.setIfInBounds_toArray, List.set_cons_zero, List.set_cons_succ]
  refine k_val (.pointer (some ⟨kb, 2, none⟩)) (by apply opN; repeat' (first | apply OpAt.z | apply OpAt.s)) (by rfl) (by rfl) (fun _ W hS => op_fa rfl rfl (fa_rj (i := 2) (by decide) W)) ?_
  simp only [Act.put, List.setIfInBounds_toArray, List.set_cons_zero, List.set_cons_succ]
  refine k_val (.int .i64 (e : Int)) (by apply opN; repeat' (first | apply OpAt.z | apply OpAt.s)) (by rfl) (by rfl) (fun _ W hS => op_ld rfl rfl (ildJ (W := W) (by obtain ⟨k, rfl⟩ := hS; exact c2.out k))) ?_
  simp only [Act.put, List.setIfInBounds_toArray, List.set_cons_zero, List.set_cons_succ]
  refine k_val (.int .i64 ((n : Int) - (e : Int))) (by apply opN; repeat' (first | apply OpAt.z | apply OpAt.s)) (by rfl) (by rfl) (fun _ W hS => op_subj rfl rfl rfl rfl (by omega)) ?_
  simp only [Act.put, List.setIfInBounds_toArray, List.set_cons_zero, List.set_cons_succ]
  refine k_val (.int .i64 ((n : Int) - (e : Int))) (by apply opN; repeat' (first | apply OpAt.z | apply OpAt.s)) (by rfl) (by rfl) (fun _ W hS => op_asg rfl rfl) ?_
  simp only [Act.put, List.setIfInBounds_toArray, List.set_cons_zero, List.set_cons_succ]
  refine k_nil ?_
  intro W' hC hK
  obtain ⟨k, rfl⟩ := hC
  go_wp2
  go_ret
  exact ⟨rfl, k, rfl⟩
/-- what Append of the reference leaves -/
def RAppOut (H : List UInt8 → List UInt8) (B kb rb n sb : Nat) (S : RW.Dk) (rs l : List ByteArray) (br : Bool) (w : World) (r : Ending) (w' : World) : Prop :=
  r = .returned (.int .i64 (RW.japp H n S rs br l).1) ∧
    (∃ sb' L' pv' lv', RefAt w' B rb n sb' L' pv' (RW.japp H n S rs br l).2.2.2 ∧ RjAt w' B kb rb lv' (RW.japp H n S rs br l).2.1 (RW.stos H RW.z32 (RW.japp H n S rs br l).2.1).length (RW.japp H n S rs br l).2.2.1 ∧ RTch kb rb sb w sb' w') ∧ Below B w w'
set_option maxRecDepth 100000 in
set_option maxHeartbeats 8000000 in
theorem rappend_any (B kb rb n sb : Nat) (L : List UInt8) (pv lv vl : Value) (S : RW.Dk) (p : Nat) (rs l : List ByteArray) (br : Bool) (hn1 : 1 ≤ n) (hg : RW.Rg n S p) (hp : p ≤ 900000) (w : World) (hR : RefAt w B rb n sb L pv S) (hj : RjAt w B kb rb lv rs (RW.stos (RW.sha RW.k0F) RW.z32 rs).length br)
    (hfit : (RW.stos (RW.sha RW.k0F) RW.z32 rs).length ≤ n) (hlims : ∀ r ∈ rs, r.size ≤ 65536) (M : Nat) (hl : StrsOwn w M vl l) (hll : l.length ≤ 1000) (hls : ∀ r ∈ l, r.size ≤ 65536) :
    Calls Tryz.prog 13 #[.pointer (some ⟨kb, 0, none⟩), vl] w (RAppOut (RW.sha RW.k0F) B kb rb n sb S rs l br w) := by
  have hBs := hide (show B ≤ w.heap.size from Nat.le_trans hR.hb (Nat.le_of_lt hR.lt.1))
  have hnx := hide (fun W (hW : Below w.heap.size w W) => (show RefAt W B rb n sb L pv S ∧ RjAt W B kb rb lv rs (RW.stos (RW.sha RW.k0F) RW.z32 rs).length br ∧ StrR W vl l ∧ RTch kb rb sb w sb W ∧ Below B w W from ⟨hR.next hW, hj.next hW, RowV.next (strs_own hl) hW, .of_below hW, hW.mono hBs.out⟩))
  have hn := hR.hn
  obtain ⟨la, lc, rfl, _, _⟩ := id (strs_own hl)
  obtain ⟨ra, rc, elv⟩ := own_shape hj.own
  obtain ⟨rl, hrl⟩ : ∃ rl, rl = rs.length := ⟨_, rfl⟩
  have hrle := RW.stos_ge (RW.sha RW.k0F) rs RW.z32
  have hrl4 : rl ≤ 4194304 := by omega
  rw [← hrl] at elv
  subst elv
  obtain ⟨ll, hlle⟩ : ∃ ll, ll = l.length := ⟨_, rfl⟩
  have hlleH := hide hlle
  have hrlH := hide hrl
  rw [← hlle] at hnx hll hl ⊢
  obtain ⟨E, hE⟩ : ∃ E, E = (RW.stos (RW.sha RW.k0F) RW.z32 rs).length := ⟨_, rfl⟩
  have hEH := hide hE
  rw [← hE] at hnx hfit
  have c3 : w.cell? ⟨kb, 3, none⟩ = some (.bool br) := hj.c3
  cases br
  case true =>
    have hja := hide (RW.japp_long (H := RW.sha RW.k0F) (n := n) (S := S) (rs := rs) (l := l) (br := true) (.inl rfl))
    have h0 := hide (hnx.out w (Below.refl _ _))
    clear hR hj hl hE hrl hlle hrle hnx hg hlims hls
    go_enter Tryz.func13, Tryz.ntmps13
    go_wp2
    go_ret
    obtain ⟨g1, g2, _, g4, g5⟩ := h0.out
    exact ⟨by rw [hja.out] <;> rfl, ⟨sb, L, pv, .slice ra rl rc, by rw [hja.out]; exact g1, by rw [hja.out, ← hEH.out]; exact g2, g4⟩, g5⟩
  case false =>
    have c1 : w.cell? ⟨kb, 1, none⟩ = some (.slice ra rl rc) := hj.c1
    have hlk := hide (fun sb1 W (hT : RTch kb rb sb w sb1 W) => own_rtch hl hR hj hT)
    have hHd := hide (rhead_any (.slice ra rl rc) rs w (strs_own hj.own) (by omega) hlims)
    have hgH := hide hg
    have hlsH := hide hls
    obtain ⟨h0, hh0⟩ : ∃ h0, h0 = RW.hds (RW.sha RW.k0F) RW.z32 rs := ⟨_, rfl⟩
    have hh0l := hide (show h0.length = 32 by rw [hh0]; exact hds_len32 _ _ (by simp [RW.z32]))
    rw [← hh0] at hHd
    have hh0H := hide hh0
    have hjl : l.any (fun r => decide (65536 < r.size)) = false := RW.no_long hls
    have hjlH := hide hjl
    clear hR hj hl hE hrl hlle hrle hg hlims hls hh0 hjl
    go_enter Tryz.func13, Tryz.ntmps13
    go_wp2_with (go_at_call 48; refine hHd.out.mono ?_; rintro e w4 ⟨rfl, hB4⟩; have hB4H := hide hB4; clear hB4)
    clear hHd c1 c3
    go_loopw [5, 6, 7] (fun ov hv i wr => ∃ (j : Nat), i = .int .i64 j ∧ j ≤ ll ∧ ov = .string (RW.strOf (RW.stos (RW.sha RW.k0F) h0 (l.take j))) ∧ hv = .string (RW.strOf (RW.hds (RW.sha RW.k0F) h0 (l.take j))) ∧ Hid (Below w.heap.size w wr)) (fun _ _ i _ => ll - (intOf i).toNat)
    case atStart => exact ⟨0, rfl, Nat.zero_le _, rfl, rfl, hB4H⟩
    case round =>
      obtain ⟨j, rfl, hj, rfl, rfl, hQ⟩ := hrel
      obtain ⟨wo, hwo⟩ : ∃ wo, wo = wr := ⟨_, rfl⟩
      subst hwo
      clear hB4H
      by_cases hjn : j < ll
      · obtain ⟨r, hr⟩ : ∃ r, l[j]? = some r := ⟨_, List.getElem?_eq_getElem (by rw [← hlleH.out]; exact hjn)⟩
        obtain ⟨g0, o0, lc', e', hcell⟩ := strR_cell (W' := wo) (by have h := (hnx.out wo hQ.out).2.2.1; rw [hlleH.out] at h; exact h) hr
        cases e'
        have hc := hcell wo (Below.refl _ _)
        have hrs := hlsH.out r (List.mem_of_getElem? hr)
        have hrsi : ¬ ((65536 : Int) < (r.size : Int)) := by omega
        obtain ⟨X, hX⟩ : ∃ X, X = RW.strOf (RW.hds (RW.sha RW.k0F) h0 (l.take j)) := ⟨_, rfl⟩
        have hXs : X.size = 32 := by rw [hX, RW.strOf_size]; exact hds_len32 _ _ hh0l.out
        have hXl : X.data.toList = RW.hds (RW.sha RW.k0F) h0 (l.take j) := by rw [hX, RW.strOf_list]
        obtain ⟨O, hO⟩ : ∃ O, O = RW.strOf (RW.stos (RW.sha RW.k0F) h0 (l.take j)) := ⟨_, rfl⟩
        have hOl : O.data.toList = RW.stos (RW.sha RW.k0F) h0 (l.take j) := by rw [hO, RW.strOf_list]
        have hOs : O.size ≤ 65700000 := by
          rw [hO, RW.strOf_size]
          have h1 := RW.stos_len_le (RW.sha_len RW.k0F) (l.take j) h0 (fun r hr => hlsH.out r (List.mem_of_mem_take hr))
          have h2 : (l.take j).length ≤ j := by rw [List.length_take]; omega
          omega
        have hSt := hide (rstored_any X r hXs (by omega) wo)
        obtain ⟨T, hT⟩ : ∃ T, T = RW.strOf (RW.sto (RW.sha RW.k0F) X.data.toList r) := ⟨_, rfl⟩
        have hTs : T.size ≤ 65700 := by
          rw [hT, RW.strOf_size, RW.sto_len _ (RW.sha_len RW.k0F)]
          have h1 := RW.putI_len (r.data.toList.length : Int)
          have h2 := size_list r
          unfold RW.putS
          rw [List.length_append]
          omega
        have hcat : O.size + T.size ≤ 9223372036854775807 := by omega
        have hnew1 := hide (show O ++ T = RW.strOf (RW.stos (RW.sha RW.k0F) h0 (l.take (j + 1))) by
          rw [RW.take_snocB hr, RW.stos_snoc]
          exact RW.bytes_eq (by rw [app_data, hOl, hT, RW.strOf_list, RW.strOf_list, hXl]))
        have hnew2 := hide (show RW.strOf (RW.chn (RW.sha RW.k0F) X.data.toList r) = RW.strOf (RW.hds (RW.sha RW.k0F) h0 (l.take (j + 1))) by rw [RW.take_snocB hr, RW.hds_snoc, hXl])
        rw [← hT] at hSt
        rw [← hX, ← hO]
        clear hr hcell hX hXs hXl hO hOl hOs hT hTs hrs
        go_wp2_with (go_at_call 49; refine hSt.out.mono ?_; rintro e w5 ⟨rfl, hB5⟩; have hB5H := hide (hQ.out.trans (hB5.mono hQ.out.size)); clear hB5)
        go_roundw
        case rel => exact ⟨j + 1, by go_num, by omega, by rw [hnew1.out], by rw [hnew2.out], hB5H⟩
        case measure => simp [intOf]; omega
      · obtain rfl : ll = j := by omega
        have hfin := hide (show l.take ll = l by rw [hlleH.out, List.take_length])
        rw [hfin.out]
        obtain ⟨X, hX⟩ : ∃ X, X = RW.strOf (RW.stos (RW.sha RW.k0F) h0 l) := ⟨_, rfl⟩
        have hXl := hide (show X.data.toList = RW.stos (RW.sha RW.k0F) h0 l by rw [hX, RW.strOf_list])
        have hXs := hide (show X.size = (RW.stos (RW.sha RW.k0F) h0 l).length by rw [hX, RW.strOf_size])
        rw [← hX]
        have hRj := hide (hnx.out wo hQ.out)
        have hRm := hide (rroom_any B kb rb n sb E L pv (.slice ra rl rc) S rs false (by omega) wo hRj.out.1 hRj.out.2.1)
        clear hX
        by_cases hf : n - E < X.size
        · have hf2 : (n : Int) - (E : Int) < (X.size : Int) := by omega
          have hja := hide (show RW.japp (RW.sha RW.k0F) n S rs false l = (231, rs, false, S) from RW.japp_full hjlH.out (by rw [← hEH.out, ← hh0H.out, ← hXs.out]; exact hf))
          go_wp2_with (go_at_call 22; refine hRm.out.mono ?_; rintro e w6 ⟨rfl, k6, hk6⟩; have hw6 := hide hk6; clear hk6)
          go_ret
          obtain ⟨g1, g2, _, g4, g5⟩ := hnx.out _ (show Below w.heap.size w w6 by rw [hw6.out]; exact hQ.out.trans ⟨rfl, rfl, rfl, Nat.le_refl _, fun _ _ => rfl⟩)
          exact ⟨by rw [hja.out] <;> rfl, ⟨sb, L, pv, .slice ra rl rc, by rw [hja.out]; exact g1, by rw [hja.out, ← hEH.out]; exact g2, g4⟩, g5⟩
        · have hf2 : ¬ ((n : Int) - (E : Int) < (X.size : Int)) := by omega
          by_cases hnil : l = []
          · have hXe : X.toList.isEmpty = true := RW.emp_yes0 X (RW.bytes_eq (by rw [hXl.out, hnil]; rfl))
            have hja := hide (show RW.japp (RW.sha RW.k0F) n S rs false l = (0, rs, false, S) by rw [hnil]; exact RW.japp_none)
            have hnilH := hide hnil
            clear hnil
            go_wp2_with (go_at_call 22; refine hRm.out.mono ?_; rintro e w6 ⟨rfl, k6, hk6⟩; have hw6 := hide hk6; clear hk6)
            go_ret
            obtain ⟨g1, g2, _, g4, g5⟩ := hnx.out _ (show Below w.heap.size w w6 by rw [hw6.out]; exact hQ.out.trans ⟨rfl, rfl, rfl, Nat.le_refl _, fun _ _ => rfl⟩)
            exact ⟨by rw [hja.out] <;> rfl, ⟨sb, L, pv, .slice ra rl rc, by rw [hja.out]; exact g1, by rw [hja.out, ← hEH.out]; exact g2, g4⟩, g5⟩
          · have hXn := hide (show X.data.toList ≠ [] by rw [hXl.out]; exact fun e => hnil ((RW.stos_nil _ _ _).1 e))
            have hXe : X.toList.isEmpty = false := RW.emp_no0 X hXn.out
            have hX1 : 1 ≤ X.size := by
              have h1 := hXn.out
              rcases Nat.eq_zero_or_pos X.size with h | h
              · rw [← size_list] at h
                exact absurd (List.eq_nil_of_length_eq_zero h) h1
              · exact h
            have hjw := hide (fun R hR => RW.japp_wr (H := RW.sha RW.k0F) (n := n) (S := S) (rs := rs) (l := l) (R := R) hjlH.out (by rw [← hEH.out, ← hh0H.out, ← hXs.out]; exact hf) hnil hR)
            have hd1 := hide (show X.extract 1 X.size = RW.strOf ((RW.stos (RW.sha RW.k0F) (RW.hds (RW.sha RW.k0F) RW.z32 rs) l).drop 1) from RW.bytes_eq (by rw [RW.extract_eq X 1 X.size (Nat.le_refl _), RW.strOf_list, hXl.out, ← hh0H.out]; exact List.take_of_length_le (by rw [List.length_drop, ← hXs.out]; exact Nat.le_refl _)))
            have ht1 := hide (show X.extract 0 1 = RW.strOf ((RW.stos (RW.sha RW.k0F) (RW.hds (RW.sha RW.k0F) RW.z32 rs) l).take 1) from RW.bytes_eq (by rw [RW.extract_eq X 0 1 hX1, RW.strOf_list, hXl.out, ← hh0H.out, List.drop_zero]))
            rw [← hEH.out] at hjw
            have hnilH := hide hnil
            clear hnil
            go_upto_region 17 with (go_at_call 22; refine hRm.out.mono ?_; rintro e w6 ⟨rfl, k6, hk6⟩; have hw6 := hide hk6; clear hk6)
            have hB6 := hide (show Below w.heap.size w w6 by rw [hw6.out]; exact hQ.out.trans ⟨rfl, rfl, rfl, Nat.le_refl _, fun _ _ => rfl⟩)
            have hR6 := hide (hnx.out w6 hB6.out)
            clear hw6 hRm hRj hQ
            have hXbd := hide (show X.size ≤ 4194304 by omega)
            have hJa := hide hR6.out.2.1
            have hBwa := hide hR6.out.2.2.2.2
            have hFa := hide (show ∃ sb1 L1 pv1, RefAt w6 B rb n sb1 L1 pv1 S ∧ RTch kb rb sb w sb1 w6 from ⟨sb, L, pv, hR6.out.1, hR6.out.2.2.2.1⟩)
            have hlv0 := hide hR6.out.2.2.1
            obtain ⟨x1, ax⟩ : ∃ x1, x1 = (RW.Dk.write S n ((E + 1 : Nat) : Int) (X.extract 1 X.size)).1 := ⟨_, rfl⟩
            obtain ⟨S1, hS1⟩ : ∃ S1, S1 = (RW.Dk.write S n ((E + 1 : Nat) : Int) (X.extract 1 X.size)).2 := ⟨_, rfl⟩
            have hg1 := hide (hS1 ▸ hgH.out.write ((E + 1 : Nat) : Int) (X.extract 1 X.size))
            refine wp_region_k (fun _ W => RjAt W B kb rb (.slice ra rl rc) rs E false ∧ Below B w W) (fun W => ∃ sb1 L1 pv1, RefAt W B rb n sb1 L1 pv1 (S) ∧ RTch kb rb sb w sb1 W) [11] (.op 0 (.op 1 (.op 2 (.op 3 (.op 4 (.op 5 (.op 6 (.op 7 (.op 8 (.op 9 (.op 10 (.op 11 (.op 12 .nil))))))))))))) (by kernel_rfl) (by kernel_rfl) (by rfl) (by kernel_rfl) ⟨hJa.out.next ((Below.refl _ _).drew), hBwa.out.drew⟩ (by obtain ⟨s1, l1, p1, g1, g2⟩ := hFa.out; exact ⟨s1, l1, p1, g1.next ((Below.refl _ _).drew), g2.trans (.of_below ((Below.refl _ _).drew))⟩) ?_
            refine k_val (.pointer (some ⟨kb, 0, none⟩)) (by apply opN; repeat' (first | apply OpAt.z | apply OpAt.s)) (by rfl) (by rfl) (fun _ W hS => op_mv rfl rfl) ?_
            simp only [Act.put, List.setIfInBounds_toArray, List.set_cons_zero, List.set_cons_succ]
            refine k_val (.pointer (some ⟨kb, 0, none⟩)) (by apply opN; repeat' (first | apply OpAt.z | apply OpAt.s)) (by rfl) (by rfl) (fun _ W hS => op_nc rfl rfl) ?_
            simp only [Act.put, List.setIfInBounds_toArray, List.set_cons_zero, List.set_cons_succ]
            refine k_val (.pointer (some ⟨kb, 0, none⟩)) (by apply opN; repeat' (first | apply OpAt.z | apply OpAt.s)) (by rfl) (by rfl) (fun _ W hS => op_fa rfl rfl (fa_rj (i := 0) (by decide) W)) ?_
            simp only [Act.put, List.setIfInBounds_toArray, List.set_cons_zero, List.set_cons_succ]
            refine k_val (.pointer (some ⟨rb, 0, none⟩)) (by apply opN; repeat' (first | apply OpAt.z | apply OpAt.s)) (by rfl) (by rfl) (fun _ W hS => op_ld rfl rfl (ptr_ldr hS.1.c0)) ?_
            simp only [Act.put, List.setIfInBounds_toArray, List.set_cons_zero, List.set_cons_succ]
            refine k_val (.pointer (some ⟨kb, 0, none⟩)) (by apply opN; repeat' (first | apply OpAt.z | apply OpAt.s)) (by rfl) (by rfl) (fun _ W hS => op_mv rfl rfl) ?_
            simp only [Act.put, List.setIfInBounds_toArray, List.set_cons_zero, List.set_cons_succ]
            refine k_val (.pointer (some ⟨kb, 0, none⟩)) (by apply opN; repeat' (first | apply OpAt.z | apply OpAt.s)) (by rfl) (by rfl) (fun _ W hS => op_nc rfl rfl) ?_
            simp only [Act.put, List.setIfInBounds_toArray, List.set_cons_zero, List.set_cons_succ]
            refine k_val (.pointer (some ⟨kb, 2, none⟩)) (by apply opN; repeat' (first | apply OpAt.z | apply OpAt.s)) (by rfl) (by rfl) (fun _ W hS => op_fa rfl rfl (fa_rj (i := 2) (by decide) W)) ?_
            simp only [Act.put, List.setIfInBounds_toArray, List.set_cons_zero, List.set_cons_succ]
            refine k_val (.int .i64 (E : Int)) (by apply opN; repeat' (first | apply OpAt.z | apply OpAt.s)) (by rfl) (by rfl) (fun _ W hS => op_ld rfl rfl (ildJ hS.1.c2)) ?_
            simp only [Act.put, List.setIfInBounds_toArray, List.set_cons_zero, List.set_cons_succ]
            refine k_val (.int .i64 ((E + 1 : Nat) : Int)) (by apply opN; repeat' (first | apply OpAt.z | apply OpAt.s)) (by rfl) (by rfl) (fun _ W hS => op_addj rfl rfl rfl (by omega) (by omega)) ?_
            simp only [Act.put, List.setIfInBounds_toArray, List.set_cons_zero, List.set_cons_succ]
            refine k_val (.string X) (by apply opN; repeat' (first | apply OpAt.z | apply OpAt.s)) (by rfl) (by rfl) (fun _ W hS => op_mv rfl rfl) ?_
            simp only [Act.put, List.setIfInBounds_toArray, List.set_cons_zero, List.set_cons_succ]
            refine k_val (.string (X.extract 1 X.size)) (by apply opN; repeat' (first | apply OpAt.z | apply OpAt.s)) (by rfl) (by rfl) (fun _ W hS => op_sl1 rfl rfl rfl hX1) ?_
            simp only [Act.put, List.setIfInBounds_toArray, List.set_cons_zero, List.set_cons_succ]
            refine k_step (fun K' u => u = .int .i64 x1 ∧ K' = fun W => ∃ sb1 L1 pv1, RefAt W B rb n sb1 L1 pv1 (RW.Dk.write (S) n (((E + 1 : Nat) : Int)) (X.extract 1 X.size)).2 ∧ RTch kb rb sb w sb1 W) (by apply opN; repeat' (first | apply OpAt.z | apply OpAt.s)) (by rfl) (by rfl) (by rfl) (fun W hC hK => ?_) ?_
            · obtain ⟨s1, l1, p1, g1, g2⟩ := hK
              refine op_x3 (a := .pointer (some ⟨rb, 0, none⟩)) (b := .int .i64 (((E + 1 : Nat) : Int))) (c := .string (X.extract 1 X.size)) rfl rfl rfl rfl rfl cf_rwrite ?_
              refine (rwrite_any B rb n s1 l1 p1 (S) (((E + 1 : Nat) : Int)) (X.extract 1 X.size) (by omega) (by omega) (by have := hXbd.out; rw [ByteArray.size_extract]; omega) (by have := hgH.out.pl; omega) W g1).mono ?_
              rintro e W' ⟨rfl, p2, g3, g4, g5⟩
              exact ⟨_, rfl, ⟨hC.1.rfr g1 g4, hC.2.trans g5⟩, _, ⟨s1, l1, p2, g3, g2.trans (.of_rfr g4)⟩, by rw [ax], rfl⟩
            rintro _ _ ⟨rfl, rfl⟩
            simp only [Act.put, List.setIfInBounds_toArray, List.set_cons_zero, List.set_cons_succ]
            refine k_val (.int .i64 x1) (by apply opN; repeat' (first | apply OpAt.z | apply OpAt.s)) (by rfl) (by rfl) (fun _ W hS => op_asg rfl rfl) ?_
            simp only [Act.put, List.setIfInBounds_toArray, List.set_cons_zero, List.set_cons_succ]
            refine k_nil ?_
            intro W hCW hK
            rw [← hS1] at hK
            go_upto_region 18 with fail
            refine gen_w (fun W => RjAt W B kb rb (.slice ra rl rc) rs E false ∧ Below B w W ∧ ∃ sb1 L1 pv1, RefAt W B rb n sb1 L1 pv1 (S1) ∧ RTch kb rb sb w sb1 W) ⟨hCW.1, hCW.2, hK⟩ ?_
            rintro wb ⟨g1, g2, g3⟩
            have hJb := hide g1
            have hBwb := hide g2
            have hFb := hide g3
            clear g1 g2 g3 hCW hK
            have w1e : RW.Dk.write S n ((E + 1 : Nat) : Int) (RW.strOf ((RW.stos (RW.sha RW.k0F) (RW.hds (RW.sha RW.k0F) RW.z32 rs) l).drop 1)) = (x1, S1) := by rw [← hd1.out, ax, hS1]
            by_cases hx1 : x1 = 0
            · subst hx1
              obtain ⟨x2, hx2⟩ : ∃ x, x = S1.sync.1 := ⟨_, rfl⟩
              obtain ⟨S2, hS2⟩ : ∃ s, s = S1.sync.2 := ⟨_, rfl⟩
              have x2E := hide hx2.symm
              have S2E := hide hS2.symm
              have hg2 := hide (hS2 ▸ hg1.out.sync)
              have hq1 := hide (show RW.wrsy n S (E + 1) ((RW.stos (RW.sha RW.k0F) (RW.hds (RW.sha RW.k0F) RW.z32 rs) l).drop 1) = (x2, S2) by rw [RW.wrsy_yes (by rw [w1e]), w1e, hx2, hS2])
              clear ax hS1 w1e hx2 hS2
              have hSy := hide (show Calls Tryz.prog 50 #[.pointer (some ⟨rb, 0, none⟩)] wb fun e w' => e = .returned (.int .i64 x2) ∧ RjAt w' B kb rb (.slice ra rl rc) rs E false ∧ Below B w w' ∧ ∃ sb1 L1 pv1, RefAt w' B rb n sb1 L1 pv1 S2 ∧ RTch kb rb sb w sb1 w' from by
                obtain ⟨s1, l1, p1, g1, g2⟩ := hFb.out
                refine (rsync_any B rb n s1 l1 p1 S1 hn1 hg1.out.ok (by have := hg1.out.pl; omega) hg1.out.rp wb g1).mono ?_
                rintro e w' ⟨rfl, s2, l2, p2, g3, g4, g5⟩
                rw [x2E.out]
                rw [S2E.out] at g3
                exact ⟨rfl, hJb.out.rfr g1 g4, hBwb.out.trans g5, s2, l2, p2, g3, g2.trans (.of_rfr g4)⟩)
              have c0 : wb.cell? ⟨kb, 0, none⟩ = some (.pointer (some ⟨rb, 0, none⟩)) := hJb.out.c0
              go_upto_region 20 with (go_at_call 50; refine hSy.out.mono ?_; rintro e wc ⟨rfl, g1, g2, g3⟩; have hJc := hide g1; have hBwc := hide g2; have hFc := hide g3; clear g1 g2 g3)
              clear hSy c0
              by_cases hx2 : x2 = 0
              · subst hx2
                obtain ⟨x3, ax⟩ : ∃ x, x = (RW.Dk.write S2 n (E : Int) (X.extract 0 1)).1 := ⟨_, rfl⟩
                obtain ⟨S3, hS3⟩ : ∃ s, s = (RW.Dk.write S2 n (E : Int) (X.extract 0 1)).2 := ⟨_, rfl⟩
                have hg3 := hide (hS3 ▸ hg2.out.write (E : Int) (X.extract 0 1))
                go_upto_region 21 with fail
                refine wp_region_k (fun _ W => RjAt W B kb rb (.slice ra rl rc) rs E false ∧ Below B w W) (fun W => ∃ sb1 L1 pv1, RefAt W B rb n sb1 L1 pv1 (S2) ∧ RTch kb rb sb w sb1 W) [10] (.op 0 (.op 1 (.op 2 (.op 3 (.op 4 (.op 5 (.op 6 (.op 7 (.op 8 (.op 9 (.op 10 (.op 11 .nil)))))))))))) (by kernel_rfl) (by kernel_rfl) (by rfl) (by kernel_rfl) ⟨hJc.out.next ((Below.refl _ _).drew), hBwc.out.drew⟩ (by obtain ⟨s1, l1, p1, g1, g2⟩ := hFc.out; exact ⟨s1, l1, p1, g1.next ((Below.refl _ _).drew), g2.trans (.of_below ((Below.refl _ _).drew))⟩) ?_
                refine k_val (.pointer (some ⟨kb, 0, none⟩)) (by apply opN; repeat' (first | apply OpAt.z | apply OpAt.s)) (by rfl) (by rfl) (fun _ W hS => op_mv rfl rfl) ?_
                simp only [Act.put, List.setIfInBounds_toArray, List.set_cons_zero, List.set_cons_succ]
                refine k_val (.pointer (some ⟨kb, 0, none⟩)) (by apply opN; repeat' (first | apply OpAt.z | apply OpAt.s)) (by rfl) (by rfl) (fun _ W hS => op_nc rfl rfl) ?_
                simp only [Act.put, List.setIfInBounds_toArray, List.set_cons_zero, List.set_cons_succ]
                refine k_val (.pointer (some ⟨kb, 0, none⟩)) (by apply opN; repeat' (first | apply OpAt.z | apply OpAt.s)) (by rfl) (by rfl) (fun _ W hS => op_fa rfl rfl (fa_rj (i := 0) (by decide) W)) ?_
                simp only [Act.put, List.setIfInBounds_toArray, List.set_cons_zero, List.set_cons_succ]
                refine k_val (.pointer (some ⟨rb, 0, none⟩)) (by apply opN; repeat' (first | apply OpAt.z | apply OpAt.s)) (by rfl) (by rfl) (fun _ W hS => op_ld rfl rfl (ptr_ldr hS.1.c0)) ?_
                simp only [Act.put, List.setIfInBounds_toArray, List.set_cons_zero, List.set_cons_succ]
                refine k_val (.pointer (some ⟨kb, 0, none⟩)) (by apply opN; repeat' (first | apply OpAt.z | apply OpAt.s)) (by rfl) (by rfl) (fun _ W hS => op_mv rfl rfl) ?_
                simp only [Act.put, List.setIfInBounds_toArray, List.set_cons_zero, List.set_cons_succ]
                refine k_val (.pointer (some ⟨kb, 0, none⟩)) (by apply opN; repeat' (first | apply OpAt.z | apply OpAt.s)) (by rfl) (by rfl) (fun _ W hS => op_nc rfl rfl) ?_
                simp only [Act.put, List.setIfInBounds_toArray, List.set_cons_zero, List.set_cons_succ]
                refine k_val (.pointer (some ⟨kb, 2, none⟩)) (by apply opN; repeat' (first | apply OpAt.z | apply OpAt.s)) (by rfl) (by rfl) (fun _ W hS => op_fa rfl rfl (fa_rj (i := 2) (by decide) W)) ?_
                simp only [Act.put, List.setIfInBounds_toArray, List.set_cons_zero, List.set_cons_succ]
                refine k_val (.int .i64 (E : Int)) (by apply opN; repeat' (first | apply OpAt.z | apply OpAt.s)) (by rfl) (by rfl) (fun _ W hS => op_ld rfl rfl (ildJ hS.1.c2)) ?_
                simp only [Act.put, List.setIfInBounds_toArray, List.set_cons_zero, List.set_cons_succ]
                refine k_val (.string X) (by apply opN; repeat' (first | apply OpAt.z | apply OpAt.s)) (by rfl) (by rfl) (fun _ W hS => op_mv rfl rfl) ?_
                simp only [Act.put, List.setIfInBounds_toArray, List.set_cons_zero, List.set_cons_succ]
                refine k_val (.string (X.extract 0 1)) (by apply opN; repeat' (first | apply OpAt.z | apply OpAt.s)) (by rfl) (by rfl) (fun _ W hS => op_sl01 rfl rfl rfl hX1) ?_
                simp only [Act.put, List.setIfInBounds_toArray, List.set_cons_zero, List.set_cons_succ]
                refine k_step (fun K' u => u = .int .i64 x3 ∧ K' = fun W => ∃ sb1 L1 pv1, RefAt W B rb n sb1 L1 pv1 (RW.Dk.write (S2) n ((E : Int)) (X.extract 0 1)).2 ∧ RTch kb rb sb w sb1 W) (by apply opN; repeat' (first | apply OpAt.z | apply OpAt.s)) (by rfl) (by rfl) (by rfl) (fun W hC hK => ?_) ?_
                · obtain ⟨s1, l1, p1, g1, g2⟩ := hK
                  refine op_x3 (a := .pointer (some ⟨rb, 0, none⟩)) (b := .int .i64 ((E : Int))) (c := .string (X.extract 0 1)) rfl rfl rfl rfl rfl cf_rwrite ?_
                  refine (rwrite_any B rb n s1 l1 p1 (S2) ((E : Int)) (X.extract 0 1) (by omega) (by omega) (by have := hXbd.out; rw [ByteArray.size_extract]; omega) (by have := hg2.out.pl; omega) W g1).mono ?_
                  rintro e W' ⟨rfl, p2, g3, g4, g5⟩
                  exact ⟨_, rfl, ⟨hC.1.rfr g1 g4, hC.2.trans g5⟩, _, ⟨s1, l1, p2, g3, g2.trans (.of_rfr g4)⟩, by rw [ax], rfl⟩
                rintro _ _ ⟨rfl, rfl⟩
                simp only [Act.put, List.setIfInBounds_toArray, List.set_cons_zero, List.set_cons_succ]
                refine k_val (.int .i64 x3) (by apply opN; repeat' (first | apply OpAt.z | apply OpAt.s)) (by rfl) (by rfl) (fun _ W hS => op_asg rfl rfl) ?_
                simp only [Act.put, List.setIfInBounds_toArray, List.set_cons_zero, List.set_cons_succ]
                refine k_nil ?_
                intro W hCW hK
                rw [← hS3] at hK
                go_upto_region 22 with fail
                refine gen_w (fun W => RjAt W B kb rb (.slice ra rl rc) rs E false ∧ Below B w W ∧ ∃ sb1 L1 pv1, RefAt W B rb n sb1 L1 pv1 (S3) ∧ RTch kb rb sb w sb1 W) ⟨hCW.1, hCW.2, hK⟩ ?_
                rintro wd ⟨g1, g2, g3⟩
                have hJd := hide g1
                have hBwd := hide g2
                have hFd := hide g3
                clear g1 g2 g3 hCW hK
                have w3e : RW.Dk.write S2 n (E : Int) (RW.strOf ((RW.stos (RW.sha RW.k0F) (RW.hds (RW.sha RW.k0F) RW.z32 rs) l).take 1)) = (x3, S3) := by rw [← ht1.out, ax, hS3]
                by_cases hx3 : x3 = 0
                · subst hx3
                  obtain ⟨x4, hx4⟩ : ∃ x, x = S3.sync.1 := ⟨_, rfl⟩
                  obtain ⟨S4, hS4⟩ : ∃ s, s = S3.sync.2 := ⟨_, rfl⟩
                  have x4E := hide hx4.symm
                  have S4E := hide hS4.symm
                  have hq2 := hide (show RW.wrsy n S2 E ((RW.stos (RW.sha RW.k0F) (RW.hds (RW.sha RW.k0F) RW.z32 rs) l).take 1) = (x4, S4) by rw [RW.wrsy_yes (by rw [w3e]), w3e, hx4, hS4])
                  clear ax hS3 w3e hx4 hS4
                  have hSy := hide (show Calls Tryz.prog 50 #[.pointer (some ⟨rb, 0, none⟩)] wd fun e w' => e = .returned (.int .i64 x4) ∧ RjAt w' B kb rb (.slice ra rl rc) rs E false ∧ Below B w w' ∧ ∃ sb1 L1 pv1, RefAt w' B rb n sb1 L1 pv1 S4 ∧ RTch kb rb sb w sb1 w' from by
                    obtain ⟨s1, l1, p1, g1, g2⟩ := hFd.out
                    refine (rsync_any B rb n s1 l1 p1 S3 hn1 hg3.out.ok (by have := hg3.out.pl; omega) hg3.out.rp wd g1).mono ?_
                    rintro e w' ⟨rfl, s2, l2, p2, g3, g4, g5⟩
                    rw [x4E.out]
                    rw [S4E.out] at g3
                    exact ⟨rfl, hJd.out.rfr g1 g4, hBwd.out.trans g5, s2, l2, p2, g3, g2.trans (.of_rfr g4)⟩)
                  have c0 : wd.cell? ⟨kb, 0, none⟩ = some (.pointer (some ⟨rb, 0, none⟩)) := hJd.out.c0
                  go_upto_region 24 with (go_at_call 50; refine hSy.out.mono ?_; rintro e we ⟨rfl, g1, g2, g3⟩; have hJe := hide g1; have hBwe := hide g2; have hFe := hide g3; clear g1 g2 g3)
                  clear hSy c0
                  by_cases hx4 : x4 = 0
                  · subst hx4
                    have hja := hide (show RW.japp (RW.sha RW.k0F) n S rs false l = (0, rs ++ l, false, S4) by
                      rw [hjw.out (0, S4) (by rw [hq1.out]; simp only [ne_eq, not_true_eq_false, if_false]; exact hq2.out.symm)]
                      simp)
                    obtain ⟨sbe, Le, pve, hRe, hTe⟩ := hFe.out
                    have hRe := hide hRe
                    have hTe := hide hTe
                    have hle := hide (hlk.out _ _ hTe.out)
                    have c1 : we.cell? ⟨kb, 1, none⟩ = some (.slice ra rl rc) := hJe.out.c1
                    have hrl4' := hide (show rs.length ≤ 500000 by have := RW.stos_ge33 (RW.sha_len RW.k0F) rs RW.z32; rw [← hEH.out] at this; omega)
                    obtain ⟨NN, hNN⟩ : ∃ NN, NN = we.heap.size := ⟨_, rfl⟩
                    obtain ⟨v1, W1, hr1, ho1, hb1, _⟩ := run_app_rowS (strs_nil we NN) (Nat.le_of_eq hNN) (strs_own hJe.out.own) (by have := hrl4'.out; simp; omega)
                    rw [List.nil_append] at ho1
                    obtain ⟨a1, p1, e1⟩ := own_shape ho1
                    rw [← hrlH.out] at e1
                    subst e1
                    have hNNH := hide hNN
                    clear hNN
                    go_upto_region 29 with (at_builtin; refine wpList_app_run rfl (.tmp 98) (.tmp 102) rfl rfl rfl hr1 ?_)
                    refine gen_w (fun W => StrsOwn W NN (.slice a1 rl p1) rs ∧ Below NN we W) ⟨ho1, hb1⟩ ?_
                    clear hr1 ho1 hb1 c1
                    rintro wf ⟨g1, g2⟩
                    have hof := hide g1
                    have hbf := hide g2
                    clear g1 g2
                    have hJf := hide (hJe.out.next (hNNH.out ▸ hbf.out))
                    obtain ⟨v2, W2, hr2, ho2, hb2, _⟩ := run_app_rowS hof.out (hNNH.out ▸ hbf.out.size) ((strs_own hle.out).next (hNNH.out ▸ hbf.out)) (by have := hrl4'.out; rw [← hlleH.out]; omega)
                    obtain ⟨a2, p2, e2⟩ := own_shape ho2
                    obtain ⟨k2, hk2⟩ : ∃ k2, k2 = (rs ++ l).length := ⟨_, rfl⟩
                    rw [← hk2] at e2
                    subst e2
                    clear hk2
                    have hbe2 := hide (hbf.out.trans hb2 : Below NN we W2)
                    have hJ2 := hide (hJe.out.next (hNNH.out ▸ hbe2.out))
                    have c12 : W2.cell? ⟨kb, 1, none⟩ = some (.slice ra rl rc) := hJ2.out.c1
                    have f12 : W2.frozen? ⟨kb, 1, none⟩ = false := unfrozen hJ2.out.row
                    have hJ3 := hide ((RjA.set1 (w := W2) (N := B) hJ2.out.row hJ2.out.hb (own_base ho2 (by rw [hNNH.out]; exact Nat.le_trans hJe.out.hb (Nat.le_of_lt hJe.out.lt))) (Below.refl _ _)).at_)
                    have hc3 := hide ((Chg.refl kb W2).set (i := 1) (.slice a2 k2 p2))
                    have hR3 := hide ((hRe.out.next (hNNH.out ▸ hbe2.out)).chgJ hJ2.out hc3.out)
                    have hT3 := hide ((hTe.out.trans (.of_below (hNNH.out ▸ hbe2.out))).trans (.of_chg hc3.out))
                    have hB3 := hide ((hBwe.out.trans (hbe2.out.mono (by rw [hNNH.out]; exact Nat.le_trans hJe.out.hb (Nat.le_of_lt hJe.out.lt)))).trans (hc3.out.below hJ2.out.hb (Nat.le_trans hJ2.out.hb (Nat.le_of_lt hJ2.out.lt))))
                    go_upto_region 30 with (at_builtin; refine wpList_app_run rfl (.tmp 105) (.tmp 106) rfl rfl rfl hr2 ?_)
                    refine gen_w (fun W => RjAt W B kb rb (.slice a2 k2 p2) (rs ++ l) E false ∧ RefAt W B rb n sbe Le pve S4 ∧ RTch kb rb sb w sbe W ∧ Below B w W) ⟨hJ3.out, hR3.out, hT3.out, hB3.out⟩ ?_
                    clear hr2 ho2 hb2 c12 f12 hJ3 hc3 hR3 hT3 hB3 hJ2 hbe2 hJf hof hbf
                    rintro wg ⟨g1, g2, g3, g4⟩
                    have hJg := hide g1
                    have hRg := hide g2
                    have hTg := hide g3
                    have hBg := hide g4
                    clear g1 g2 g3 g4
                    have c2g : wg.cell? ⟨kb, 2, none⟩ = some (.int .i64 (E : Int)) := hJg.out.c2
                    have f2g : wg.frozen? ⟨kb, 2, none⟩ = false := unfrozen hJg.out.row
                    have hJh := hide ((RjA.set2 (w := wg) (N := B) ⟨hJg.out, Below.refl _ _⟩ (E + X.size)).at_)
                    have hch := hide ((Chg.refl kb wg).set (i := 2) (.int .i64 ((E + X.size : Nat) : Int)))
                    rw [Int.natCast_add] at hJh hch
                    have hlen := hide (show (RW.stos (RW.sha RW.k0F) RW.z32 (rs ++ l)).length = E + X.size by rw [RW.stos_app, List.length_append, ← hEH.out, ← hh0H.out, ← hXs.out])
                    have hXbi : (X.size : Int) ≤ 4194304 := by have := hXbd.out; omega
                    have hf1 := hide (hRg.out.chgJ hJg.out hch.out)
                    have hf2 := hide (hTg.out.trans (.of_chg hch.out))
                    have hf3 := hide (hBg.out.trans (hch.out.below hJg.out.hb (Nat.le_trans hJg.out.hb (Nat.le_of_lt hJg.out.lt))))
                    have hf4 := hJh.out
                    rw [← hlen.out] at hf4
                    have hf4 := hide hf4
                    clear hJh hch hRg hTg hBg hlen
                    go_wp2
                    go_ret
                    exact ⟨by rw [hja.out] <;> rfl, ⟨sbe, Le, pve, .slice a2 k2 p2, by rw [hja.out]; exact hf1.out, by rw [hja.out]; exact hf4.out, hf2.out⟩, hf3.out⟩
                  · have hja := hide (show RW.japp (RW.sha RW.k0F) n S rs false l = (x4, rs, true, S4) by
                      rw [hjw.out (x4, S4) (by rw [hq1.out]; simp only [ne_eq, not_true_eq_false, if_false]; exact hq2.out.symm)]
                      simp [hx4])
                    have hj3 := hide hJe.out
                    have c3 : we.cell? ⟨kb, 3, none⟩ = some (.bool false) := hJe.out.c3
                    have f3 : we.frozen? ⟨kb, 3, none⟩ = false := unfrozen hJe.out.row
                    go_wp2
                    go_ret
                    obtain ⟨s1, l1, p1, g1, g2⟩ := hFe.out
                    obtain ⟨g3, g4⟩ := hJe.out.broke
                    exact ⟨by rw [hja.out] <;> rfl, ⟨s1, l1, p1, .slice ra rl rc, by rw [hja.out]; exact g1.chgJ hJe.out g4, by rw [hja.out, ← hEH.out]; exact g3, g2.trans (.of_chg g4)⟩, hBwe.out.trans (g4.below hJe.out.hb (Nat.le_trans hJe.out.hb (Nat.le_of_lt hJe.out.lt)))⟩
                · have hja := hide (show RW.japp (RW.sha RW.k0F) n S rs false l = (x3, rs, true, S3) by
                    have hq : RW.wrsy n S2 E ((RW.stos (RW.sha RW.k0F) (RW.hds (RW.sha RW.k0F) RW.z32 rs) l).take 1) = (x3, S3) := by rw [RW.wrsy_no (by rw [w3e]; exact hx3), w3e]
                    rw [hjw.out (x3, S3) (by rw [hq1.out]; simp only [ne_eq, not_true_eq_false, if_false]; exact hq.symm)]
                    simp [hx3])
                  clear ax hS3 w3e
                  have hj3 := hide hJd.out
                  have c3 : wd.cell? ⟨kb, 3, none⟩ = some (.bool false) := hJd.out.c3
                  have f3 : wd.frozen? ⟨kb, 3, none⟩ = false := unfrozen hJd.out.row
                  go_wp2
                  go_ret
                  obtain ⟨s1, l1, p1, g1, g2⟩ := hFd.out
                  obtain ⟨g3, g4⟩ := hJd.out.broke
                  exact ⟨by rw [hja.out] <;> rfl, ⟨s1, l1, p1, .slice ra rl rc, by rw [hja.out]; exact g1.chgJ hJd.out g4, by rw [hja.out, ← hEH.out]; exact g3, g2.trans (.of_chg g4)⟩, hBwd.out.trans (g4.below hJd.out.hb (Nat.le_trans hJd.out.hb (Nat.le_of_lt hJd.out.lt)))⟩
              · have hja := hide (show RW.japp (RW.sha RW.k0F) n S rs false l = (x2, rs, true, S2) by
                  rw [hjw.out _ rfl, hq1.out]
                  simp [hx2])
                have hj3 := hide hJc.out
                have c3 : wc.cell? ⟨kb, 3, none⟩ = some (.bool false) := hJc.out.c3
                have f3 : wc.frozen? ⟨kb, 3, none⟩ = false := unfrozen hJc.out.row
                go_wp2
                go_ret
                obtain ⟨s1, l1, p1, g1, g2⟩ := hFc.out
                obtain ⟨g3, g4⟩ := hJc.out.broke
                exact ⟨by rw [hja.out] <;> rfl, ⟨s1, l1, p1, .slice ra rl rc, by rw [hja.out]; exact g1.chgJ hJc.out g4, by rw [hja.out, ← hEH.out]; exact g3, g2.trans (.of_chg g4)⟩, hBwc.out.trans (g4.below hJc.out.hb (Nat.le_trans hJc.out.hb (Nat.le_of_lt hJc.out.lt)))⟩
            · have hja := hide (show RW.japp (RW.sha RW.k0F) n S rs false l = (x1, rs, true, S1) by
                have hq : RW.wrsy n S (E + 1) ((RW.stos (RW.sha RW.k0F) (RW.hds (RW.sha RW.k0F) RW.z32 rs) l).drop 1) = (x1, S1) := by rw [RW.wrsy_no (by rw [w1e]; exact hx1), w1e]
                rw [hjw.out _ rfl, hq]
                simp [hx1])
              clear ax hS1 w1e
              have hj3 := hide hJb.out
              have c3 : wb.cell? ⟨kb, 3, none⟩ = some (.bool false) := hJb.out.c3
              have f3 : wb.frozen? ⟨kb, 3, none⟩ = false := unfrozen hJb.out.row
              go_wp2
              go_ret
              obtain ⟨s1, l1, p1, g1, g2⟩ := hFb.out
              obtain ⟨g3, g4⟩ := hJb.out.broke
              exact ⟨by rw [hja.out] <;> rfl, ⟨s1, l1, p1, .slice ra rl rc, by rw [hja.out]; exact g1.chgJ hJb.out g4, by rw [hja.out, ← hEH.out]; exact g3, g2.trans (.of_chg g4)⟩, hBwb.out.trans (g4.below hJb.out.hb (Nat.le_trans hJb.out.hb (Nat.le_of_lt hJb.out.lt)))⟩
end Go.Proofs.YtllbphanfahkkaaGreatDoor

/-
  Package royaltylaw23: JournalMatchesReference.
-/
import Derived.Test.YtllbphanfahkkaaGreatDoorRj7
namespace Go.Proofs.YtllbphanfahkkaaGreatDoor
open Go.RowKit RG
section
variable {ev : Operand → Value} {o : Oper} {x y : Operand} {w : World}
theorem op_neI {a b : Int} {r : Bool} (ho : o.op = .binOp .neq 3 x y 3) (hx : ev x = .int .i64 a) (hy : ev y = .int .i64 b) (h : (!decide (a = b)) = r) : (execOp ev o).run Tryz.prog w = .ok (.value (.bool r)) w := by
  unfold execOp
  rw [ho]
  go_simp
  exact h
theorem op_notJ {a r : Bool} (ho : o.op = .unOp .not 4 x) (hx : ev x = .bool a) (h : (!a) = r) : (execOp ev o).run Tryz.prog w = .ok (.value (.bool r)) w := by
  subst h
  unfold execOp
  rw [ho]
  go_simp
theorem op_nepj {q : Option Addr} {r : Bool} (ho : o.op = .binOp .neq 28 x y 28) (hx : ev x = .pointer q) (hy : ev y = .pointer none) (h : (q.isSome) = r) : (execOp ev o).run Tryz.prog w = .ok (.value (.bool r)) w := by
  subst h
  unfold execOp
  rw [ho]
  cases q <;> go_simp
theorem op_lenc {a : Option Addr} {n c : Nat} (ho : o.op = .call { callee := .builtin .len, args := #[x], argTypes := #[65] }) (hx : ev x = .slice a n c) : (execOp ev o).run Tryz.prog w = .ok (.value (.int .i64 n)) w := by
  unfold execOp
  rw [ho]
  go_simp
theorem op_cvJ {v u : Value} (ho : o.op = .convert 39 9 x) (hx : ev x = v) (hr : (convert 39 9 v).run Tryz.prog w = .ok u w) : (execOp ev o).run Tryz.prog w = .ok (.value u) w := by
  unfold execOp
  rw [ho]
  simp only [hx, Sem.run_bind, Sem.run_pure, hr, Result.andThen_ok]
end
theorem fa_rd {b i : Nat} (hi : i < 4) (W : World) : (Instr.fieldAt 67 (.pointer (some ⟨b, 0, none⟩)) i).run Tryz.prog W = .ok (.pointer (some ⟨b, i, none⟩)) W := by
  match i, hi with
  | 0, _ => go_simp
  | 1, _ => go_simp
  | 2, _ => go_simp
  | 3, _ => go_simp
theorem csl_ld {W : World} {g i : Nat} {a : Option Addr} {n c : Nat} (h : W.cell? ⟨g, i, none⟩ = some (.slice a n c)) : (ldRow 65 (.pointer (some ⟨g, i, none⟩))).run Tryz.prog W = .ok (.slice a n c) W := by
  unfold ldRow
  go_simp
theorem bld {W : World} {g i : Nat} {v : Bool} (h : W.cell? ⟨g, i, none⟩ = some (.bool v)) : (ldRow 4 (.pointer (some ⟨g, i, none⟩))).run Tryz.prog W = .ok (.bool v) W := by
  unfold ldRow
  go_simp
theorem cf_pending : ∀ args w, (callFunc 33 args).run Tryz.prog w = .ok (.enter 33 args) w := fun args w => by go_simp
theorem cf_content : ∀ args w, (callFunc 23 args).run Tryz.prog w = .ok (.enter 23 args) w := fun args w => by go_simp
theorem cf_visible : ∀ args w, (callFunc 24 args).run Tryz.prog w = .ok (.enter 24 args) w := fun args w => by go_simp
theorem cf_records : ∀ args w, (callFunc 20 args).run Tryz.prog w = .ok (.enter 20 args) w := fun args w => by go_simp
theorem cf_same20 : ∀ args w, (callFunc 19 args).run Tryz.prog w = .ok (.enter 19 args) w := fun args w => by go_simp
theorem cf_room : ∀ args w, (callFunc 21 args).run Tryz.prog w = .ok (.enter 21 args) w := fun args w => by go_simp
theorem cf_rroom : ∀ args w, (callFunc 22 args).run Tryz.prog w = .ok (.enter 22 args) w := fun args w => by go_simp
theorem opl_size (x : RW.Opc) : (Tryz.prog.info? 62).map (·.size) = some (RW.opl x).length := by kernel_rfl
theorem ldRow_op (x : Value) : Instr.loadAt 62 x = ldRow 62 x := rfl
theorem op_ldJ {W : World} {g o : Nat} {x : RW.Opc} (h : W.rangeAt g o (RW.opl x)) : (ldRow 62 (.pointer (some ⟨g, o, none⟩))).run Tryz.prog W = .ok (.agg (RW.opl x).toArray) W :=
  ldRow_mid (fun j u hj => h j u (by simpa using hj)) Tryz.underlying62 rfl (opl_size x)
section
variable {W w : World} {B b n db vb rb wb p : Nat} {jp kp : Option Addr} {S : RW.Dk} {jo : Option (List ByteArray × Bool)} {rs : List ByteArray} {br : Bool}
theorem MJ.pending (h : MJ B b n db vb rb wb jp kp S S jo jo w W) : Calls Tryz.prog 33 #[.pointer (some ⟨b, 0, none⟩)] W fun e w' => e = .returned (.int .i64 (S.pend.length : Int)) ∧ W = w' := by
  obtain ⟨pv, h1⟩ := h.1.d
  exact pending_any W h1
theorem MJ.content (h : MJ B b n db vb rb wb jp kp S S jo jo w W) (hoff : S.off = false) : Calls Tryz.prog 23 #[.pointer (some ⟨b, 0, none⟩)] W fun e w' => e = .returned (.string (RW.strOf S.vis)) ∧ W = w' := by
  obtain ⟨pv, h1⟩ := h.1.d
  have hl := h1.lv
  have e : (S.read n 0 n).1 = RW.strOf S.vis := by
    unfold RW.Dk.read
    rw [if_neg (by rw [hoff]; simp), if_pos ((RW.insB_iff n _ _).2 ⟨by omega, by omega, by omega, by omega⟩), show (0 : Int).toNat = 0 from rfl, List.drop_zero, Int.toNat_natCast, ← hl, List.take_length]
  rw [← e]
  exact content_any B b n db vb pv S W h1
theorem MJ.visible (h : MJ B b n db vb rb wb jp kp S S jo jo w W) (hn1 : 1 ≤ n) (hg : RW.Rg n S p) (hp : p ≤ 900000) : Calls Tryz.prog 24 #[.pointer (some ⟨rb, 0, none⟩)] W fun e w' => ∃ v, e = .returned v ∧ ((convert 39 9 v).run Tryz.prog w' = .ok (.string (RW.strOf S.vis)) w') ∧ Below W.heap.size W w' := by
  obtain ⟨sb, L, pv2, h2, _, _⟩ := h.1.r
  refine (visible_any B rb n sb L pv2 S hn1 hg.ok (by have := hg.pl; omega) W h2).mono ?_
  rintro e w' ⟨g, L', e1, e2, e3, e4, _, e6⟩
  refine ⟨_, e1, ?_, e6⟩
  have := run_conv w' g L' e2 0 n L'.length (by omega)
  rw [List.drop_zero, e3, hg.rp] at this
  exact this
theorem MJ.records {jb : Nat} (h : MJ B b n db vb rb wb (some ⟨jb, 0, none⟩) kp S S (some (rs, br)) jo w W) (hn : n ≤ 1500) (hfit : (RW.stos HH RW.z32 rs).length ≤ n) :
    Calls Tryz.prog 20 #[.pointer (some ⟨jb, 0, none⟩)] W fun e w' => ∃ u, e = .returned u ∧ StrR w' u rs ∧ Below W.heap.size W w' := by
  obtain ⟨jb', rv, e, h2⟩ := h.2.1
  cases e
  refine (records_any B b jb rv rs br (by have := RW.stos_ge HH rs RW.z32; omega) W h2).mono ?_
  rintro e w' ⟨u, h3, h4, h5⟩
  exact ⟨u, h3, strs_own h4, h5⟩
theorem MJ.room_c {jb : Nat} (h : MJ B b n db vb rb wb (some ⟨jb, 0, none⟩) kp S S (some (rs, br)) jo w W) (hn : n ≤ 1500) (hfit : (RW.stos HH RW.z32 rs).length ≤ n) :
    Calls Tryz.prog 21 #[.pointer (some ⟨jb, 0, none⟩)] W fun e w' => e = .returned (.int .i64 ((n : Int) - ((RW.stos HH RW.z32 rs).length : Int))) ∧ Below W.heap.size W w' := by
  obtain ⟨pv, h1⟩ := h.1.d
  obtain ⟨jb', rv, e, h2⟩ := h.2.1
  cases e
  refine (room_any B b n db vb jb pv rv S rs br (by omega) W h1 h2).mono ?_
  rintro e w' ⟨h3, k, rfl⟩
  exact ⟨h3, ⟨rfl, rfl, rfl, Nat.le_refl _, fun _ _ => rfl⟩⟩
theorem MJ.room_r {kb : Nat} (h : MJ B b n db vb rb wb jp (some ⟨kb, 0, none⟩) S S jo (some (rs, br)) w W) (hn : n ≤ 1500) (hfit : (RW.stos HH RW.z32 rs).length ≤ n) :
    Calls Tryz.prog 22 #[.pointer (some ⟨kb, 0, none⟩)] W fun e w' => e = .returned (.int .i64 ((n : Int) - ((RW.stos HH RW.z32 rs).length : Int))) ∧ Below W.heap.size W w' := by
  obtain ⟨sb, L, pv2, h2, _, _⟩ := h.1.r
  obtain ⟨kb', lv, e, h5⟩ := h.2.2
  cases e
  refine (rroom_any B kb rb n sb _ L pv2 lv S rs br (by omega) W h2 h5).mono ?_
  rintro e w' ⟨h3, k, rfl⟩
  exact ⟨h3, ⟨rfl, rfl, rfl, Nat.le_refl _, fun _ _ => rfl⟩⟩
end
attribute [local go_sem ↓] ldRow_op
set_option maxRecDepth 100000 in
set_option maxHeartbeats 16000000 in
theorem jmatch_any (c : Int) (hc : -9223372036854775808 ≤ c) (hc2 : c ≤ 9223372036854775807) (gv : Value) (os : List RW.Opc) (hpl : os.length ≤ 9223372036854775807) (ks : Array Value) (hks : RW.WsOk ks RW.k0F) (a : Addr) (w : World) (hps : OpsR w gv os) (hK : KLaid w ks) (hg : w.cell? ⟨1, 0, none⟩ = some (RW.jeW a)) :
    Calls Tryz.prog 7 #[.int .i64 c, gv] w fun e w' => e = .returned (.bool true) ∧ Below w.heap.size w w' := by
  obtain ⟨z, hz⟩ : ∃ z : Nat, 1 + RW.pickI c 1500 = (z : Int) := ⟨(1 + RW.pickI c 1500).toNat, by have := RW.pickI_bd c 1500 (by decide); omega⟩
  have hzb := hide (show 1 ≤ z ∧ z ≤ 1500 by have := RW.pickI_bd c 1500 (by decide); omega)
  have hgl := hide (cell_ltJ hg)
  have hnx0 := hide (fun W (hW : Below w.heap.size w W) => (show KLaid W ks ∧ W.cell? ⟨1, 0, none⟩ = some (RW.jeW a) ∧ OpsR W gv os from ⟨RW.jklaid hK hW (Nat.le_refl _), (World.cell?_of_block (a := ⟨1, 0, none⟩) (hW.block _ hgl.out)).trans hg, hps.next hW⟩))
  have hSn := hide (sane_any RW.k0F ks hks a w hK hg)
  have hBg := hide (fun W hnx => begin_any (a := a) hks c hc hc2 z hz W hnx)
  obtain ⟨ga, gc, egv, _, _⟩ := id hps.1
  subst egv
  obtain ⟨m, hm⟩ : ∃ m, m = os.length := ⟨_, rfl⟩
  have hmH := hide hm
  rw [← hm] at hnx0 hpl ⊢
  clear hK hg hps hz hgl hm
  go_enter Tryz.func7, Tryz.ntmps7
  go_upto_region 2 with (go_at_call 9; refine hSn.out.mono ?_; rintro e w1 ⟨rfl, hB1⟩; have hB1H := hide hB1; clear hB1)
  obtain ⟨B, hB⟩ : ∃ B, B = w1.heap.size := ⟨_, rfl⟩
  have hBH := hide hB
  have hwB := hide (show w.heap.size ≤ B by rw [hB]; exact hB1H.out.size)
  have hnx := hide (fun W (hW : Below B w1 W) => hnx0.out W (hB1H.out.trans (hW.mono hwB.out)))
  have hBg1 := hide (hBg.out w1 (fun W hW => ⟨(hnx.out W (by rw [hB]; exact hW)).1, (hnx.out W (by rw [hB]; exact hW)).2.1⟩))
  rw [← hB] at hBg1
  clear hB hSn hnx0 hBg
  go_upto_region 3 with (go_at_call 10; refine hBg1.out.mono ?_; rintro e w3 ⟨b, db, vb, rb, wb, jp0, kp0, rfl, h2⟩; have hM3 := hide h2; clear h2)
  clear hBg1
  go_wp2
  go_loopw [8] (fun i wr => ∃ (j : Nat), i = .int .i64 j ∧ j ≤ m ∧ j ≤ 25 ∧ Hid (∃ jp kp S jo, MJ B b z db vb rb wb jp kp S S jo jo w1 wr ∧ RW.Rg z S (2 * j) ∧ JoOk z jo)) (fun i _ => 25 - (intOf i).toNat)
  case atStart => exact ⟨0, rfl, Nat.zero_le _, Nat.zero_le _, ⟨jp0, kp0, RW.dk0 z, some ([], false), hM3.out, RW.rg_dk0 z 0, fun rs br e => by cases e; exact ⟨Nat.zero_le _, fun r hr => by cases hr⟩⟩⟩
  case round =>
    obtain ⟨j, rfl, hj, hj25, hQ⟩ := hrel
    obtain ⟨wo, hwo⟩ : ∃ wo, wo = wr := ⟨_, rfl⟩
    subst hwo
    obtain ⟨jp, kp, S0, jo0, hM, hR0, hJ0⟩ := hQ.out
    have hM := hide hM
    have hR0 := hide hR0
    have hJ0 := hide hJ0
    clear hQ hM3
    by_cases hjm : j < m
    · by_cases hj7 : j < 25
      · obtain ⟨x, hx⟩ : ∃ x, os[j]? = some x := ⟨_, List.getElem?_eq_getElem (by rw [← hmH.out]; exact hjm)⟩
        obtain ⟨g0, o0, e', hrange⟩ : ∃ g0 o0, ga = some ⟨g0, o0, none⟩ ∧ wo.rangeAt g0 (o0 + j * 4) (RW.opl x) := by
          obtain ⟨⟨a', c', e1, _, hcc⟩, _⟩ := (hnx.out wo hM.out.1.bel).2.2
          injection e1 with e1 _ _
          subst e1
          rcases hcc with e1 | ⟨g0, o0, e1, _, hcc⟩
          · rw [e1] at hx; cases hx
          · exact ⟨g0, o0, e1, hcc j x hx⟩
        subst e'
        obtain ⟨CX, hCX⟩ : ∃ CX, CX = (RW.opl x).toArray := ⟨_, rfl⟩
        have hld : (ldRow 62 (.pointer (some ⟨g0, o0 + j * 4, none⟩))).run Tryz.prog wo = .ok (.agg CX) wo := by rw [hCX]; exact op_ldJ hrange
        have hDo := hide (does_any hks hM.out hzb.out.1 hR0.out (by omega) hJ0.out x (a := a) (fun W' hW => ⟨(hnx.out W' hW).1, (hnx.out W' hW).2.1, (hnx.out W' hW).2.2.2 x (List.mem_of_getElem? hx)⟩))
        rw [← hCX] at hDo
        clear hx hrange hCX
        go_upto_region 9 with (go_at_call 32; refine hDo.out.mono ?_; rintro e w8 ⟨rfl, jp8, kp8, S, jo, h1, h2, h3⟩; have hM8 := hide h1; have hR8 := hide h2; have hJ8 := hide h3; clear h1 h2 h3)
        clear hld hDo hM hR0 hJ0
        obtain ⟨N, hN⟩ : ∃ N, N = w8.heap.size := ⟨_, rfl⟩
        have hNH := hide hN
        have hb0 := hide (show Below N w8 w8 from Below.refl _ _)
        obtain ⟨sb, Lr, pvr, hRf, _, _⟩ := hM8.out.1.r
        obtain ⟨ra, rcp, epv⟩ := hRf.form
        subst epv
        have hn8 := hide (fun W (hW : Below N w8 W) => (show MJ B b z db vb rb wb jp8 kp8 S S jo jo w1 W ∧ RefAt W B rb z sb Lr (.slice ra S.pend.length rcp) S from ⟨hM8.out.next (hN ▸ hW), hRf.next (hN ▸ hW)⟩))
        clear hN hRf
        rcases hoff : S.off with _ | _
        · have hoffH := hide hoff
          clear hoff
          refine wp_region_k (fun _ W => Below N w8 W) (fun W => True) [7, 32, 37, 38] (.op 0 (.op 1 (.op 2 (.op 3 (.op 4 (.op 5 (.op 6 (.op 8 (.op 9 (.op 10 (.op 11 (.op 12 (.op 13 (.op 14 (.op 15 (.op 7 (.op 16 (.op 17 (.op 18 (.op 19 (.op 20 (.op 21 (.op 22 (.op 23 (.op 24 (.op 25 (.op 26 (.op 27 (.op 28 (.op 29 (.op 30 (.op 31 (.op 33 (.op 34 (.op 35 (.op 36 (.op 32 (.op 37 (.op 38 (.op 39 (.op 40 (.op 41 .nil)))))))))))))))))))))))))))))))))))))))))) (by kernel_rfl) (by kernel_rfl) (by rfl) (by kernel_rfl) (hb0.out.drew) trivial ?_
          refine k_val (.bool true) (by apply opN; repeat' (first | apply OpAt.z | apply OpAt.s)) (by rfl) (by rfl) (fun _ W hS => op_mv rfl rfl) ?_
          simp only [Act.put, List.setIfInBounds_toArray, List.set_cons_zero, List.set_cons_succ]
          refine k_val (.bool false) (by apply opN; repeat' (first | apply OpAt.z | apply OpAt.s)) (by rfl) (by rfl) (fun _ W hS => op_notJ rfl rfl rfl) ?_
          simp only [Act.put, List.setIfInBounds_toArray, List.set_cons_zero, List.set_cons_succ]
          refine k_val (.bool false) (by apply opN; repeat' (first | apply OpAt.z | apply OpAt.s)) (by rfl) (by rfl) (fun _ W hS => op_mv rfl rfl) ?_
          simp only [Act.put, List.setIfInBounds_toArray, List.set_cons_zero, List.set_cons_succ]
          refine k_val (.pointer (some ⟨wb, 0, none⟩)) (by apply opN; repeat' (first | apply OpAt.z | apply OpAt.s)) (by rfl) (by rfl) (fun _ W hS => op_mv rfl rfl) ?_
          simp only [Act.put, List.setIfInBounds_toArray, List.set_cons_zero, List.set_cons_succ]
          refine k_val (.pointer (some ⟨wb, 0, none⟩)) (by apply opN; repeat' (first | apply OpAt.z | apply OpAt.s)) (by rfl) (by rfl) (fun _ W hS => op_nc rfl rfl) ?_
          simp only [Act.put, List.setIfInBounds_toArray, List.set_cons_zero, List.set_cons_succ]
          refine k_val (.pointer (some ⟨wb, 0, none⟩)) (by apply opN; repeat' (first | apply OpAt.z | apply OpAt.s)) (by rfl) (by rfl) (fun _ W hS => op_fa rfl rfl (fa_w (i := 0) (by decide) W)) ?_
          simp only [Act.put, List.setIfInBounds_toArray, List.set_cons_zero, List.set_cons_succ]
          refine k_val (.pointer (some ⟨b, 0, none⟩)) (by apply opN; repeat' (first | apply OpAt.z | apply OpAt.s)) (by rfl) (by rfl) (fun _ W hS => op_ld rfl rfl (ptr_ldd (cellAt (hn8.out W hS).1.1.row 0))) ?_
          simp only [Act.put, List.setIfInBounds_toArray, List.set_cons_zero, List.set_cons_succ]
          refine k_val (.pointer (some ⟨wb, 0, none⟩)) (by apply opN; repeat' (first | apply OpAt.z | apply OpAt.s)) (by rfl) (by rfl) (fun _ W hS => op_mv rfl rfl) ?_
          simp only [Act.put, List.setIfInBounds_toArray, List.set_cons_zero, List.set_cons_succ]
          refine k_val (.pointer (some ⟨wb, 0, none⟩)) (by apply opN; repeat' (first | apply OpAt.z | apply OpAt.s)) (by rfl) (by rfl) (fun _ W hS => op_nc rfl rfl) ?_
          simp only [Act.put, List.setIfInBounds_toArray, List.set_cons_zero, List.set_cons_succ]
          refine k_val (.pointer (some ⟨wb, 2, none⟩)) (by apply opN; repeat' (first | apply OpAt.z | apply OpAt.s)) (by rfl) (by rfl) (fun _ W hS => op_fa rfl rfl (fa_w (i := 2) (by decide) W)) ?_
          simp only [Act.put, List.setIfInBounds_toArray, List.set_cons_zero, List.set_cons_succ]
          refine k_val (.pointer (some ⟨rb, 0, none⟩)) (by apply opN; repeat' (first | apply OpAt.z | apply OpAt.s)) (by rfl) (by rfl) (fun _ W hS => op_ld rfl rfl (ptr_ldr (cellAt (hn8.out W hS).1.1.row 2))) ?_
          simp only [Act.put, List.setIfInBounds_toArray, List.set_cons_zero, List.set_cons_succ]
          refine k_val (.pointer (some ⟨rb, 0, none⟩)) (by apply opN; repeat' (first | apply OpAt.z | apply OpAt.s)) (by rfl) (by rfl) (fun _ W hS => op_nc rfl rfl) ?_
          simp only [Act.put, List.setIfInBounds_toArray, List.set_cons_zero, List.set_cons_succ]
          refine k_val (.pointer (some ⟨rb, 1, none⟩)) (by apply opN; repeat' (first | apply OpAt.z | apply OpAt.s)) (by rfl) (by rfl) (fun _ W hS => op_fa rfl rfl (fa_rd (i := 1) (by decide) W)) ?_
          simp only [Act.put, List.setIfInBounds_toArray, List.set_cons_zero, List.set_cons_succ]
          refine k_val (.slice ra S.pend.length rcp) (by apply opN; repeat' (first | apply OpAt.z | apply OpAt.s)) (by rfl) (by rfl) (fun _ W hS => op_ld rfl rfl (csl_ld (cellAt (hn8.out W hS).2.row 1))) ?_
          simp only [Act.put, List.setIfInBounds_toArray, List.set_cons_zero, List.set_cons_succ]
          refine k_val (.int .i64 (S.pend.length : Int)) (by apply opN; repeat' (first | apply OpAt.z | apply OpAt.s)) (by rfl) (by rfl) (fun _ W hS => op_lenc rfl rfl) ?_
          simp only [Act.put, List.setIfInBounds_toArray, List.set_cons_zero, List.set_cons_succ]
          refine k_step (fun K' u => u = .int .i64 (S.pend.length : Int) ∧ K' = fun _ => True) (by apply opN; repeat' (first | apply OpAt.z | apply OpAt.s)) (by rfl) (by rfl) (by rfl) (fun W hC hK => ?_) ?_
          · refine op_x1 (n := .pointer (some ⟨b, 0, none⟩)) rfl rfl rfl cf_pending ?_
            refine ((hn8.out W hC).1.pending).mono ?_
            rintro e w' ⟨rfl, rfl⟩
            exact ⟨_, rfl, hC, _, trivial, rfl, rfl⟩
          rintro _ _ ⟨rfl, rfl⟩
          simp only [Act.put, List.setIfInBounds_toArray, List.set_cons_zero, List.set_cons_succ]
          refine k_val (.bool false) (by apply opN; repeat' (first | apply OpAt.z | apply OpAt.s)) (by rfl) (by rfl) (fun _ W hS => op_neI rfl rfl rfl (by simp)) ?_
          simp only [Act.put, List.setIfInBounds_toArray, List.set_cons_zero, List.set_cons_succ]
          refine k_val (.bool false) (by apply opN; repeat' (first | apply OpAt.z | apply OpAt.s)) (by rfl) (by rfl) (fun _ W hS => op_pk rfl rfl rfl rfl rfl) ?_
          simp only [Act.put, List.setIfInBounds_toArray, List.set_cons_zero, List.set_cons_succ]
          refine k_val (.bool false) (by apply opN; repeat' (first | apply OpAt.z | apply OpAt.s)) (by rfl) (by rfl) (fun _ W hS => op_mv rfl rfl) ?_
          simp only [Act.put, List.setIfInBounds_toArray, List.set_cons_zero, List.set_cons_succ]
          refine k_val (.pointer (some ⟨wb, 0, none⟩)) (by apply opN; repeat' (first | apply OpAt.z | apply OpAt.s)) (by rfl) (by rfl) (fun _ W hS => op_mv rfl rfl) ?_
          simp only [Act.put, List.setIfInBounds_toArray, List.set_cons_zero, List.set_cons_succ]
          refine k_val (.pointer (some ⟨wb, 0, none⟩)) (by apply opN; repeat' (first | apply OpAt.z | apply OpAt.s)) (by rfl) (by rfl) (fun _ W hS => op_nc rfl rfl) ?_
          simp only [Act.put, List.setIfInBounds_toArray, List.set_cons_zero, List.set_cons_succ]
          refine k_val (.pointer (some ⟨wb, 2, none⟩)) (by apply opN; repeat' (first | apply OpAt.z | apply OpAt.s)) (by rfl) (by rfl) (fun _ W hS => op_fa rfl rfl (fa_w (i := 2) (by decide) W)) ?_
          simp only [Act.put, List.setIfInBounds_toArray, List.set_cons_zero, List.set_cons_succ]
          refine k_val (.pointer (some ⟨rb, 0, none⟩)) (by apply opN; repeat' (first | apply OpAt.z | apply OpAt.s)) (by rfl) (by rfl) (fun _ W hS => op_ld rfl rfl (ptr_ldr (cellAt (hn8.out W hS).1.1.row 2))) ?_
          simp only [Act.put, List.setIfInBounds_toArray, List.set_cons_zero, List.set_cons_succ]
          refine k_val (.pointer (some ⟨rb, 0, none⟩)) (by apply opN; repeat' (first | apply OpAt.z | apply OpAt.s)) (by rfl) (by rfl) (fun _ W hS => op_nc rfl rfl) ?_
          simp only [Act.put, List.setIfInBounds_toArray, List.set_cons_zero, List.set_cons_succ]
          refine k_val (.pointer (some ⟨rb, 2, none⟩)) (by apply opN; repeat' (first | apply OpAt.z | apply OpAt.s)) (by rfl) (by rfl) (fun _ W hS => op_fa rfl rfl (fa_rd (i := 2) (by decide) W)) ?_
          simp only [Act.put, List.setIfInBounds_toArray, List.set_cons_zero, List.set_cons_succ]
          refine k_val (.bool false) (by apply opN; repeat' (first | apply OpAt.z | apply OpAt.s)) (by rfl) (by rfl) (fun _ W hS => op_ld rfl rfl (bld ((cellAt (hn8.out W hS).2.row 2).trans (by rw [hoffH.out]; rfl)))) ?_
          simp only [Act.put, List.setIfInBounds_toArray, List.set_cons_zero, List.set_cons_succ]
          refine k_val (.bool true) (by apply opN; repeat' (first | apply OpAt.z | apply OpAt.s)) (by rfl) (by rfl) (fun _ W hS => op_notJ rfl rfl rfl) ?_
          simp only [Act.put, List.setIfInBounds_toArray, List.set_cons_zero, List.set_cons_succ]
          refine k_val (.bool true) (by apply opN; repeat' (first | apply OpAt.z | apply OpAt.s)) (by rfl) (by rfl) (fun _ W hS => op_mv rfl rfl) ?_
          simp only [Act.put, List.setIfInBounds_toArray, List.set_cons_zero, List.set_cons_succ]
          refine k_val (.pointer (some ⟨wb, 0, none⟩)) (by apply opN; repeat' (first | apply OpAt.z | apply OpAt.s)) (by rfl) (by rfl) (fun _ W hS => op_mv rfl rfl) ?_
          simp only [Act.put, List.setIfInBounds_toArray, List.set_cons_zero, List.set_cons_succ]
          refine k_val (.pointer (some ⟨wb, 0, none⟩)) (by apply opN; repeat' (first | apply OpAt.z | apply OpAt.s)) (by rfl) (by rfl) (fun _ W hS => op_nc rfl rfl) ?_
          simp only [Act.put, List.setIfInBounds_toArray, List.set_cons_zero, List.set_cons_succ]
          refine k_val (.pointer (some ⟨wb, 0, none⟩)) (by apply opN; repeat' (first | apply OpAt.z | apply OpAt.s)) (by rfl) (by rfl) (fun _ W hS => op_fa rfl rfl (fa_w (i := 0) (by decide) W)) ?_
          simp only [Act.put, List.setIfInBounds_toArray, List.set_cons_zero, List.set_cons_succ]
          refine k_val (.pointer (some ⟨b, 0, none⟩)) (by apply opN; repeat' (first | apply OpAt.z | apply OpAt.s)) (by rfl) (by rfl) (fun _ W hS => op_ld rfl rfl (ptr_ldd (cellAt (hn8.out W hS).1.1.row 0))) ?_
          simp only [Act.put, List.setIfInBounds_toArray, List.set_cons_zero, List.set_cons_succ]
          refine k_val (.pointer (some ⟨wb, 0, none⟩)) (by apply opN; repeat' (first | apply OpAt.z | apply OpAt.s)) (by rfl) (by rfl) (fun _ W hS => op_mv rfl rfl) ?_
          simp only [Act.put, List.setIfInBounds_toArray, List.set_cons_zero, List.set_cons_succ]
          refine k_val (.pointer (some ⟨wb, 0, none⟩)) (by apply opN; repeat' (first | apply OpAt.z | apply OpAt.s)) (by rfl) (by rfl) (fun _ W hS => op_nc rfl rfl) ?_
          simp only [Act.put, List.setIfInBounds_toArray, List.set_cons_zero, List.set_cons_succ]
          refine k_val (.pointer (some ⟨wb, 2, none⟩)) (by apply opN; repeat' (first | apply OpAt.z | apply OpAt.s)) (by rfl) (by rfl) (fun _ W hS => op_fa rfl rfl (fa_w (i := 2) (by decide) W)) ?_
          simp only [Act.put, List.setIfInBounds_toArray, List.set_cons_zero, List.set_cons_succ]
          refine k_val (.pointer (some ⟨rb, 0, none⟩)) (by apply opN; repeat' (first | apply OpAt.z | apply OpAt.s)) (by rfl) (by rfl) (fun _ W hS => op_ld rfl rfl (ptr_ldr (cellAt (hn8.out W hS).1.1.row 2))) ?_
          simp only [Act.put, List.setIfInBounds_toArray, List.set_cons_zero, List.set_cons_succ]
          refine k_step (fun K' u => u = .string (RW.strOf S.vis) ∧ K' = fun _ => True) (by apply opN; repeat' (first | apply OpAt.z | apply OpAt.s)) (by rfl) (by rfl) (by rfl) (fun W hC hK => ?_) ?_
          · refine op_x1 (n := .pointer (some ⟨b, 0, none⟩)) rfl rfl rfl cf_content ?_
            refine ((hn8.out W hC).1.content hoffH.out).mono ?_
            rintro e w' ⟨rfl, rfl⟩
            exact ⟨_, rfl, hC, _, trivial, rfl, rfl⟩
          rintro _ _ ⟨rfl, rfl⟩
          simp only [Act.put, List.setIfInBounds_toArray, List.set_cons_zero, List.set_cons_succ]
          refine k_step (fun K' u => K' = fun W => (convert 39 9 u).run Tryz.prog W = .ok (.string (RW.strOf S.vis)) W) (by apply opN; repeat' (first | apply OpAt.z | apply OpAt.s)) (by rfl) (by rfl) (by rfl) (fun W hC hK => ?_) ?_
          · refine op_x1 (n := .pointer (some ⟨rb, 0, none⟩)) rfl rfl rfl cf_visible ?_
            refine ((hn8.out W hC).1.visible hzb.out.1 hR8.out (by omega)).mono ?_
            rintro e w' ⟨v, rfl, g1, g2⟩
            exact ⟨_, rfl, hC.trans (g2.mono (by rw [hNH.out]; exact hC.size)), _, g1, rfl⟩
          rintro _ uv rfl
          simp only [Act.put, List.setIfInBounds_toArray, List.set_cons_zero, List.set_cons_succ]
          refine k_step (fun K' u => u = .string (RW.strOf S.vis) ∧ K' = fun _ => True) (by apply opN; repeat' (first | apply OpAt.z | apply OpAt.s)) (by rfl) (by rfl) (by rfl) (fun W hC hK => ?_) ?_
          · exact xup_val (op_cvJ rfl rfl hK) ⟨hC, _, trivial, rfl, rfl⟩
          rintro _ _ ⟨rfl, rfl⟩
          simp only [Act.put, List.setIfInBounds_toArray, List.set_cons_zero, List.set_cons_succ]
          refine k_val (.bool false) (by apply opN; repeat' (first | apply OpAt.z | apply OpAt.s)) (by rfl) (by rfl) (fun _ W hS => op_neqs rfl rfl rfl (by simp)) ?_
          simp only [Act.put, List.setIfInBounds_toArray, List.set_cons_zero, List.set_cons_succ]
          refine k_val (.bool false) (by apply opN; repeat' (first | apply OpAt.z | apply OpAt.s)) (by rfl) (by rfl) (fun _ W hS => op_pk rfl rfl rfl rfl rfl) ?_
          simp only [Act.put, List.setIfInBounds_toArray, List.set_cons_zero, List.set_cons_succ]
          refine k_val (.bool false) (by apply opN; repeat' (first | apply OpAt.z | apply OpAt.s)) (by rfl) (by rfl) (fun _ W hS => op_pk rfl rfl rfl rfl rfl) ?_
          simp only [Act.put, List.setIfInBounds_toArray, List.set_cons_zero, List.set_cons_succ]
          refine k_nil ?_
          intro W' hCW _
          go_upto_region 11 with fail
          refine gen_w (fun W2 => Below N w8 W2) hCW ?_
          clear hCW hb0
          rintro w9 hB9
          have hM9 := hide (hn8.out w9 hB9).1
          clear hn8 hoffH hB9 hM8
          obtain ⟨N9, hN9⟩ : ∃ N, N = w9.heap.size := ⟨_, rfl⟩
          have hN9H := hide hN9
          have hb9 := hide (show Below N9 w9 w9 from Below.refl _ _)
          have hn9 := hide (fun W (hW : Below N9 w9 W) => (show MJ B b z db vb rb wb jp8 kp8 S S jo jo w1 W ∧ True from ⟨hM9.out.next (hN9 ▸ hW), trivial⟩))
          clear hN9
          rcases jo with _ | ⟨rs, br⟩
          · obtain rfl : jp8 = none := hM9.out.2.1
            refine wp_region_k (fun _ W => Below N9 w9 W) (fun W => True) [] (.op 0 (.op 1 (.op 2 (.op 3 (.op 4 (.op 5 (.op 6 (.op 7 (.op 8 (.op 9 (.op 10 (.op 11 (.op 12 (.op 13 (.op 14 (.op 15 (.op 16 (.op 17 (.op 18 (.op 19 (.op 20 (.op 21 (.op 22 (.op 23 (.op 24 (.op 25 (.op 26 (.op 27 (.op 28 (.op 29 (.op 30 (.op 31 (.op 32 (.op 33 .nil)))))))))))))))))))))))))))))))))) (by kernel_rfl) (by kernel_rfl) (by rfl) (by kernel_rfl) (hb9.out.drew) trivial ?_
            refine k_val (.pointer (some ⟨wb, 0, none⟩)) (by apply opN; repeat' (first | apply OpAt.z | apply OpAt.s)) (by rfl) (by rfl) (fun _ W hS => op_mv rfl rfl) ?_
            simp only [Act.put, List.setIfInBounds_toArray, List.set_cons_zero, List.set_cons_succ]
            refine k_val (.pointer (some ⟨wb, 0, none⟩)) (by apply opN; repeat' (first | apply OpAt.z | apply OpAt.s)) (by rfl) (by rfl) (fun _ W hS => op_nc rfl rfl) ?_
            simp only [Act.put, List.setIfInBounds_toArray, List.set_cons_zero, List.set_cons_succ]
            refine k_val (.pointer (some ⟨wb, 1, none⟩)) (by apply opN; repeat' (first | apply OpAt.z | apply OpAt.s)) (by rfl) (by rfl) (fun _ W hS => op_fa rfl rfl (fa_w (i := 1) (by decide) W)) ?_
            simp only [Act.put, List.setIfInBounds_toArray, List.set_cons_zero, List.set_cons_succ]
            refine k_val (.pointer none) (by apply opN; repeat' (first | apply OpAt.z | apply OpAt.s)) (by rfl) (by rfl) (fun _ W hS => op_ld rfl rfl (ptr_ldjJ (cellAt (hn9.out W hS).1.1.row 1))) ?_
            simp only [Act.put, List.setIfInBounds_toArray, List.set_cons_zero, List.set_cons_succ]
            refine k_val (.bool false) (by apply opN; repeat' (first | apply OpAt.z | apply OpAt.s)) (by rfl) (by rfl) (fun _ W hS => op_nepj rfl rfl rfl rfl) ?_
            simp only [Act.put, List.setIfInBounds_toArray, List.set_cons_zero, List.set_cons_succ]
            refine k_val (.bool false) (by apply opN; repeat' (first | apply OpAt.z | apply OpAt.s)) (by rfl) (by rfl) (fun _ W hS => op_mv rfl rfl) ?_
            simp only [Act.put, List.setIfInBounds_toArray, List.set_cons_zero, List.set_cons_succ]
            refine k_skip (by apply opN; repeat' (first | apply OpAt.z | apply OpAt.s)) (by rfl) (by rfl) ?_
            simp only [Act.put, List.setIfInBounds_toArray, List.set_cons_zero, List.set_cons_succ]
            refine k_skip (by apply opN; repeat' (first | apply OpAt.z | apply OpAt.s)) (by rfl) (by rfl) ?_
            simp only [Act.put, List.setIfInBounds_toArray, List.set_cons_zero, List.set_cons_succ]
            refine k_skip (by apply opN; repeat' (first | apply OpAt.z | apply OpAt.s)) (by rfl) (by rfl) ?_
            simp only [Act.put, List.setIfInBounds_toArray, List.set_cons_zero, List.set_cons_succ]
            refine k_skip (by apply opN; repeat' (first | apply OpAt.z | apply OpAt.s)) (by rfl) (by rfl) ?_
            simp only [Act.put, List.setIfInBounds_toArray, List.set_cons_zero, List.set_cons_succ]
            refine k_skip (by apply opN; repeat' (first | apply OpAt.z | apply OpAt.s)) (by rfl) (by rfl) ?_
            simp only [Act.put, List.setIfInBounds_toArray, List.set_cons_zero, List.set_cons_succ]
            refine k_skip (by apply opN; repeat' (first | apply OpAt.z | apply OpAt.s)) (by rfl) (by rfl) ?_
            simp only [Act.put, List.setIfInBounds_toArray, List.set_cons_zero, List.set_cons_succ]
            refine k_skip (by apply opN; repeat' (first | apply OpAt.z | apply OpAt.s)) (by rfl) (by rfl) ?_
            simp only [Act.put, List.setIfInBounds_toArray, List.set_cons_zero, List.set_cons_succ]
            refine k_skip (by apply opN; repeat' (first | apply OpAt.z | apply OpAt.s)) (by rfl) (by rfl) ?_
            simp only [Act.put, List.setIfInBounds_toArray, List.set_cons_zero, List.set_cons_succ]
            refine k_skip (by apply opN; repeat' (first | apply OpAt.z | apply OpAt.s)) (by rfl) (by rfl) ?_
            simp only [Act.put, List.setIfInBounds_toArray, List.set_cons_zero, List.set_cons_succ]
            refine k_skip (by apply opN; repeat' (first | apply OpAt.z | apply OpAt.s)) (by rfl) (by rfl) ?_
            simp only [Act.put, List.setIfInBounds_toArray, List.set_cons_zero, List.set_cons_succ]
            refine k_skip (by apply opN; repeat' (first | apply OpAt.z | apply OpAt.s)) (by rfl) (by rfl) ?_
            simp only [Act.put, List.setIfInBounds_toArray, List.set_cons_zero, List.set_cons_succ]
            refine k_skip (by apply opN; repeat' (first | apply OpAt.z | apply OpAt.s)) (by rfl) (by rfl) ?_
            simp only [Act.put, List.setIfInBounds_toArray, List.set_cons_zero, List.set_cons_succ]
            refine k_skip (by apply opN; repeat' (first | apply OpAt.z | apply OpAt.s)) (by rfl) (by rfl) ?_
            simp only [Act.put, List.setIfInBounds_toArray, List.set_cons_zero, List.set_cons_succ]
            refine k_skip (by apply opN; repeat' (first | apply OpAt.z | apply OpAt.s)) (by rfl) (by rfl) ?_
            simp only [Act.put, List.setIfInBounds_toArray, List.set_cons_zero, List.set_cons_succ]
            refine k_skip (by apply opN; repeat' (first | apply OpAt.z | apply OpAt.s)) (by rfl) (by rfl) ?_
            simp only [Act.put, List.setIfInBounds_toArray, List.set_cons_zero, List.set_cons_succ]
            refine k_skip (by apply opN; repeat' (first | apply OpAt.z | apply OpAt.s)) (by rfl) (by rfl) ?_
            simp only [Act.put, List.setIfInBounds_toArray, List.set_cons_zero, List.set_cons_succ]
            refine k_skip (by apply opN; repeat' (first | apply OpAt.z | apply OpAt.s)) (by rfl) (by rfl) ?_
            simp only [Act.put, List.setIfInBounds_toArray, List.set_cons_zero, List.set_cons_succ]
            refine k_skip (by apply opN; repeat' (first | apply OpAt.z | apply OpAt.s)) (by rfl) (by rfl) ?_
            simp only [Act.put, List.setIfInBounds_toArray, List.set_cons_zero, List.set_cons_succ]
            refine k_skip (by apply opN; repeat' (first | apply OpAt.z | apply OpAt.s)) (by rfl) (by rfl) ?_
            simp only [Act.put, List.setIfInBounds_toArray, List.set_cons_zero, List.set_cons_succ]
            refine k_skip (by apply opN; repeat' (first | apply OpAt.z | apply OpAt.s)) (by rfl) (by rfl) ?_
            simp only [Act.put, List.setIfInBounds_toArray, List.set_cons_zero, List.set_cons_succ]
            refine k_skip (by apply opN; repeat' (first | apply OpAt.z | apply OpAt.s)) (by rfl) (by rfl) ?_
            simp only [Act.put, List.setIfInBounds_toArray, List.set_cons_zero, List.set_cons_succ]
            refine k_skip (by apply opN; repeat' (first | apply OpAt.z | apply OpAt.s)) (by rfl) (by rfl) ?_
            simp only [Act.put, List.setIfInBounds_toArray, List.set_cons_zero, List.set_cons_succ]
            refine k_skip (by apply opN; repeat' (first | apply OpAt.z | apply OpAt.s)) (by rfl) (by rfl) ?_
            simp only [Act.put, List.setIfInBounds_toArray, List.set_cons_zero, List.set_cons_succ]
            refine k_skip (by apply opN; repeat' (first | apply OpAt.z | apply OpAt.s)) (by rfl) (by rfl) ?_
            simp only [Act.put, List.setIfInBounds_toArray, List.set_cons_zero, List.set_cons_succ]
            refine k_skip (by apply opN; repeat' (first | apply OpAt.z | apply OpAt.s)) (by rfl) (by rfl) ?_
            simp only [Act.put, List.setIfInBounds_toArray, List.set_cons_zero, List.set_cons_succ]
            refine k_skip (by apply opN; repeat' (first | apply OpAt.z | apply OpAt.s)) (by rfl) (by rfl) ?_
            simp only [Act.put, List.setIfInBounds_toArray, List.set_cons_zero, List.set_cons_succ]
            refine k_skip (by apply opN; repeat' (first | apply OpAt.z | apply OpAt.s)) (by rfl) (by rfl) ?_
            simp only [Act.put, List.setIfInBounds_toArray, List.set_cons_zero, List.set_cons_succ]
            refine k_val (.bool false) (by apply opN; repeat' (first | apply OpAt.z | apply OpAt.s)) (by rfl) (by rfl) (fun _ W hS => op_pk rfl rfl rfl rfl rfl) ?_
            simp only [Act.put, List.setIfInBounds_toArray, List.set_cons_zero, List.set_cons_succ]
            refine k_nil ?_
            intro W' hCW _
            have hMf := hide (hn9.out W' hCW).1
            clear hCW hb9
            go_wp2
            go_roundw
            case rel => exact ⟨j + 1, by go_num, by omega, by omega, ⟨_, _, S, _, hMf.out, hR8.out.mono (by omega), hJ8.out⟩⟩
            case measure => simp [intOf]; omega
          · obtain ⟨jb, rv, rfl, _⟩ := hM9.out.2.1
            obtain ⟨kb, lv, rfl, hkr⟩ := hM9.out.2.2
            obtain ⟨la, lcp, elv⟩ := own_shape hkr.own
            subst elv
            obtain ⟨hfit, hlims⟩ := hJ8.out rs br rfl
            have hfit := hide hfit
            have hrl := hide (show rs.length ≤ 1500 by have := RW.stos_ge HH rs RW.z32; have := hfit.out; have := hzb.out.2; omega)
            have hk9 := hide (fun W (hW : Below N9 w9 W) => hkr.next (hN9H.out ▸ hW))
            clear hkr hlims
            refine wp_region_k (fun _ W => Below N9 w9 W) (fun W => True) [10, 18, 25, 30] (.op 0 (.op 1 (.op 2 (.op 3 (.op 4 (.op 5 (.op 6 (.op 7 (.op 8 (.op 9 (.op 11 (.op 12 (.op 13 (.op 14 (.op 15 (.op 16 (.op 17 (.op 10 (.op 18 (.op 19 (.op 20 (.op 21 (.op 22 (.op 23 (.op 24 (.op 26 (.op 27 (.op 28 (.op 29 (.op 25 (.op 30 (.op 31 (.op 32 (.op 33 .nil)))))))))))))))))))))))))))))))))) (by kernel_rfl) (by kernel_rfl) (by rfl) (by kernel_rfl) (hb9.out.drew) trivial ?_
            refine k_val (.pointer (some ⟨wb, 0, none⟩)) (by apply opN; repeat' (first | apply OpAt.z | apply OpAt.s)) (by rfl) (by rfl) (fun _ W hS => op_mv rfl rfl) ?_
            simp only [Act.put, List.setIfInBounds_toArray, List.set_cons_zero, List.set_cons_succ]
            refine k_val (.pointer (some ⟨wb, 0, none⟩)) (by apply opN; repeat' (first | apply OpAt.z | apply OpAt.s)) (by rfl) (by rfl) (fun _ W hS => op_nc rfl rfl) ?_
            simp only [Act.put, List.setIfInBounds_toArray, List.set_cons_zero, List.set_cons_succ]
            refine k_val (.pointer (some ⟨wb, 1, none⟩)) (by apply opN; repeat' (first | apply OpAt.z | apply OpAt.s)) (by rfl) (by rfl) (fun _ W hS => op_fa rfl rfl (fa_w (i := 1) (by decide) W)) ?_
            simp only [Act.put, List.setIfInBounds_toArray, List.set_cons_zero, List.set_cons_succ]
            refine k_val (.pointer (some ⟨jb, 0, none⟩)) (by apply opN; repeat' (first | apply OpAt.z | apply OpAt.s)) (by rfl) (by rfl) (fun _ W hS => op_ld rfl rfl (ptr_ldjJ (cellAt (hn9.out W hS).1.1.row 1))) ?_
            simp only [Act.put, List.setIfInBounds_toArray, List.set_cons_zero, List.set_cons_succ]
            refine k_val (.bool true) (by apply opN; repeat' (first | apply OpAt.z | apply OpAt.s)) (by rfl) (by rfl) (fun _ W hS => op_nepj rfl rfl rfl rfl) ?_
            simp only [Act.put, List.setIfInBounds_toArray, List.set_cons_zero, List.set_cons_succ]
            refine k_val (.bool true) (by apply opN; repeat' (first | apply OpAt.z | apply OpAt.s)) (by rfl) (by rfl) (fun _ W hS => op_mv rfl rfl) ?_
            simp only [Act.put, List.setIfInBounds_toArray, List.set_cons_zero, List.set_cons_succ]
            refine k_val (.pointer (some ⟨wb, 0, none⟩)) (by apply opN; repeat' (first | apply OpAt.z | apply OpAt.s)) (by rfl) (by rfl) (fun _ W hS => op_mv rfl rfl) ?_
            simp only [Act.put, List.setIfInBounds_toArray, List.set_cons_zero, List.set_cons_succ]
            refine k_val (.pointer (some ⟨wb, 0, none⟩)) (by apply opN; repeat' (first | apply OpAt.z | apply OpAt.s)) (by rfl) (by rfl) (fun _ W hS => op_nc rfl rfl) ?_
            simp only [Act.put, List.setIfInBounds_toArray, List.set_cons_zero, List.set_cons_succ]
            refine k_val (.pointer (some ⟨wb, 1, none⟩)) (by apply opN; repeat' (first | apply OpAt.z | apply OpAt.s)) (by rfl) (by rfl) (fun _ W hS => op_fa rfl rfl (fa_w (i := 1) (by decide) W)) ?_
            simp only [Act.put, List.setIfInBounds_toArray, List.set_cons_zero, List.set_cons_succ]
            refine k_val (.pointer (some ⟨jb, 0, none⟩)) (by apply opN; repeat' (first | apply OpAt.z | apply OpAt.s)) (by rfl) (by rfl) (fun _ W hS => op_ld rfl rfl (ptr_ldjJ (cellAt (hn9.out W hS).1.1.row 1))) ?_
            simp only [Act.put, List.setIfInBounds_toArray, List.set_cons_zero, List.set_cons_succ]
            refine k_val (.pointer (some ⟨wb, 0, none⟩)) (by apply opN; repeat' (first | apply OpAt.z | apply OpAt.s)) (by rfl) (by rfl) (fun _ W hS => op_mv rfl rfl) ?_
            simp only [Act.put, List.setIfInBounds_toArray, List.set_cons_zero, List.set_cons_succ]
            refine k_val (.pointer (some ⟨wb, 0, none⟩)) (by apply opN; repeat' (first | apply OpAt.z | apply OpAt.s)) (by rfl) (by rfl) (fun _ W hS => op_nc rfl rfl) ?_
            simp only [Act.put, List.setIfInBounds_toArray, List.set_cons_zero, List.set_cons_succ]
            refine k_val (.pointer (some ⟨wb, 3, none⟩)) (by apply opN; repeat' (first | apply OpAt.z | apply OpAt.s)) (by rfl) (by rfl) (fun _ W hS => op_fa rfl rfl (fa_w (i := 3) (by decide) W)) ?_
            simp only [Act.put, List.setIfInBounds_toArray, List.set_cons_zero, List.set_cons_succ]
            refine k_val (.pointer (some ⟨kb, 0, none⟩)) (by apply opN; repeat' (first | apply OpAt.z | apply OpAt.s)) (by rfl) (by rfl) (fun _ W hS => op_ld rfl rfl (ptr_ldk (cellAt (hn9.out W hS).1.1.row 3))) ?_
            simp only [Act.put, List.setIfInBounds_toArray, List.set_cons_zero, List.set_cons_succ]
            refine k_val (.pointer (some ⟨kb, 0, none⟩)) (by apply opN; repeat' (first | apply OpAt.z | apply OpAt.s)) (by rfl) (by rfl) (fun _ W hS => op_nc rfl rfl) ?_
            simp only [Act.put, List.setIfInBounds_toArray, List.set_cons_zero, List.set_cons_succ]
            refine k_val (.pointer (some ⟨kb, 1, none⟩)) (by apply opN; repeat' (first | apply OpAt.z | apply OpAt.s)) (by rfl) (by rfl) (fun _ W hS => op_fa rfl rfl (fa_rj (i := 1) (by decide) W)) ?_
            simp only [Act.put, List.setIfInBounds_toArray, List.set_cons_zero, List.set_cons_succ]
            refine k_val (.slice la rs.length lcp) (by apply opN; repeat' (first | apply OpAt.z | apply OpAt.s)) (by rfl) (by rfl) (fun _ W hS => op_ld rfl rfl (sl_ld (hk9.out W hS).c1)) ?_
            simp only [Act.put, List.setIfInBounds_toArray, List.set_cons_zero, List.set_cons_succ]
            refine k_step (fun K' u => K' = fun W => StrR W u rs) (by apply opN; repeat' (first | apply OpAt.z | apply OpAt.s)) (by rfl) (by rfl) (by rfl) (fun W hC hK => ?_) ?_
            · refine op_x1 (n := .pointer (some ⟨jb, 0, none⟩)) rfl rfl rfl cf_records ?_
              refine ((hn9.out W hC).1.records hzb.out.2 hfit.out).mono ?_
              rintro e w' ⟨u, rfl, g1, g2⟩
              exact ⟨_, rfl, hC.trans (g2.mono (by rw [hN9H.out]; exact hC.size)), _, g1, rfl⟩
            rintro _ ur rfl
            simp only [Act.put, List.setIfInBounds_toArray, List.set_cons_zero, List.set_cons_succ]
            refine k_step (fun K' u => u = .bool true ∧ K' = fun _ => True) (by apply opN; repeat' (first | apply OpAt.z | apply OpAt.s)) (by rfl) (by rfl) (by rfl) (fun W hC hK => ?_) ?_
            · refine op_x2 (n := ur) (m := .slice la rs.length lcp) rfl rfl rfl rfl cf_same20 ?_
              refine (same20_any ur (.slice la rs.length lcp) rs rs W hK (strs_own (hk9.out W hC).own) (by have := hrl.out; omega) (by have := hrl.out; omega)).mono ?_
              rintro e w' ⟨rfl, g2⟩
              exact ⟨_, rfl, hC.trans (g2.mono (by rw [hN9H.out]; exact hC.size)), _, trivial, by simp, rfl⟩
            rintro _ _ ⟨rfl, rfl⟩
            simp only [Act.put, List.setIfInBounds_toArray, List.set_cons_zero, List.set_cons_succ]
            refine k_val (.bool false) (by apply opN; repeat' (first | apply OpAt.z | apply OpAt.s)) (by rfl) (by rfl) (fun _ W hS => op_notJ rfl rfl rfl) ?_
            simp only [Act.put, List.setIfInBounds_toArray, List.set_cons_zero, List.set_cons_succ]
            refine k_val (.bool false) (by apply opN; repeat' (first | apply OpAt.z | apply OpAt.s)) (by rfl) (by rfl) (fun _ W hS => op_mv rfl rfl) ?_
            simp only [Act.put, List.setIfInBounds_toArray, List.set_cons_zero, List.set_cons_succ]
            refine k_val (.pointer (some ⟨wb, 0, none⟩)) (by apply opN; repeat' (first | apply OpAt.z | apply OpAt.s)) (by rfl) (by rfl) (fun _ W hS => op_mv rfl rfl) ?_
            simp only [Act.put, List.setIfInBounds_toArray, List.set_cons_zero, List.set_cons_succ]
            refine k_val (.pointer (some ⟨wb, 0, none⟩)) (by apply opN; repeat' (first | apply OpAt.z | apply OpAt.s)) (by rfl) (by rfl) (fun _ W hS => op_nc rfl rfl) ?_
            simp only [Act.put, List.setIfInBounds_toArray, List.set_cons_zero, List.set_cons_succ]
            refine k_val (.pointer (some ⟨wb, 1, none⟩)) (by apply opN; repeat' (first | apply OpAt.z | apply OpAt.s)) (by rfl) (by rfl) (fun _ W hS => op_fa rfl rfl (fa_w (i := 1) (by decide) W)) ?_
            simp only [Act.put, List.setIfInBounds_toArray, List.set_cons_zero, List.set_cons_succ]
            refine k_val (.pointer (some ⟨jb, 0, none⟩)) (by apply opN; repeat' (first | apply OpAt.z | apply OpAt.s)) (by rfl) (by rfl) (fun _ W hS => op_ld rfl rfl (ptr_ldjJ (cellAt (hn9.out W hS).1.1.row 1))) ?_
            simp only [Act.put, List.setIfInBounds_toArray, List.set_cons_zero, List.set_cons_succ]
            refine k_val (.pointer (some ⟨wb, 0, none⟩)) (by apply opN; repeat' (first | apply OpAt.z | apply OpAt.s)) (by rfl) (by rfl) (fun _ W hS => op_mv rfl rfl) ?_
            simp only [Act.put, List.setIfInBounds_toArray, List.set_cons_zero, List.set_cons_succ]
            refine k_val (.pointer (some ⟨wb, 0, none⟩)) (by apply opN; repeat' (first | apply OpAt.z | apply OpAt.s)) (by rfl) (by rfl) (fun _ W hS => op_nc rfl rfl) ?_
            simp only [Act.put, List.setIfInBounds_toArray, List.set_cons_zero, List.set_cons_succ]
            refine k_val (.pointer (some ⟨wb, 3, none⟩)) (by apply opN; repeat' (first | apply OpAt.z | apply OpAt.s)) (by rfl) (by rfl) (fun _ W hS => op_fa rfl rfl (fa_w (i := 3) (by decide) W)) ?_
            simp only [Act.put, List.setIfInBounds_toArray, List.set_cons_zero, List.set_cons_succ]
            refine k_val (.pointer (some ⟨kb, 0, none⟩)) (by apply opN; repeat' (first | apply OpAt.z | apply OpAt.s)) (by rfl) (by rfl) (fun _ W hS => op_ld rfl rfl (ptr_ldk (cellAt (hn9.out W hS).1.1.row 3))) ?_
            simp only [Act.put, List.setIfInBounds_toArray, List.set_cons_zero, List.set_cons_succ]
            refine k_step (fun K' u => u = .int .i64 ((z : Int) - ((RW.stos HH RW.z32 rs).length : Int)) ∧ K' = fun _ => True) (by apply opN; repeat' (first | apply OpAt.z | apply OpAt.s)) (by rfl) (by rfl) (by rfl) (fun W hC hK => ?_) ?_
            · refine op_x1 (n := .pointer (some ⟨jb, 0, none⟩)) rfl rfl rfl cf_room ?_
              refine ((hn9.out W hC).1.room_c hzb.out.2 hfit.out).mono ?_
              rintro e w' ⟨rfl, g2⟩
              exact ⟨_, rfl, hC.trans (g2.mono (by rw [hN9H.out]; exact hC.size)), _, trivial, rfl, rfl⟩
            rintro _ _ ⟨rfl, rfl⟩
            simp only [Act.put, List.setIfInBounds_toArray, List.set_cons_zero, List.set_cons_succ]
            refine k_step (fun K' u => u = .int .i64 ((z : Int) - ((RW.stos HH RW.z32 rs).length : Int)) ∧ K' = fun _ => True) (by apply opN; repeat' (first | apply OpAt.z | apply OpAt.s)) (by rfl) (by rfl) (by rfl) (fun W hC hK => ?_) ?_
            · refine op_x1 (n := .pointer (some ⟨kb, 0, none⟩)) rfl rfl rfl cf_rroom ?_
              refine ((hn9.out W hC).1.room_r hzb.out.2 hfit.out).mono ?_
              rintro e w' ⟨rfl, g2⟩
              exact ⟨_, rfl, hC.trans (g2.mono (by rw [hN9H.out]; exact hC.size)), _, trivial, rfl, rfl⟩
            rintro _ _ ⟨rfl, rfl⟩
            simp only [Act.put, List.setIfInBounds_toArray, List.set_cons_zero, List.set_cons_succ]
            refine k_val (.bool false) (by apply opN; repeat' (first | apply OpAt.z | apply OpAt.s)) (by rfl) (by rfl) (fun _ W hS => op_neI rfl rfl rfl (by simp)) ?_
            simp only [Act.put, List.setIfInBounds_toArray, List.set_cons_zero, List.set_cons_succ]
            refine k_val (.bool false) (by apply opN; repeat' (first | apply OpAt.z | apply OpAt.s)) (by rfl) (by rfl) (fun _ W hS => op_pk rfl rfl rfl rfl rfl) ?_
            simp only [Act.put, List.setIfInBounds_toArray, List.set_cons_zero, List.set_cons_succ]
            refine k_val (.bool false) (by apply opN; repeat' (first | apply OpAt.z | apply OpAt.s)) (by rfl) (by rfl) (fun _ W hS => op_pk rfl rfl rfl rfl rfl) ?_
            simp only [Act.put, List.setIfInBounds_toArray, List.set_cons_zero, List.set_cons_succ]
            refine k_nil ?_
            intro W' hCW _
            have hMf := hide (hn9.out W' hCW).1
            clear hCW hb9
            go_wp2
            go_roundw
            case rel => exact ⟨j + 1, by go_num, by omega, by omega, ⟨_, _, S, _, hMf.out, hR8.out.mono (by omega), hJ8.out⟩⟩
            case measure => simp [intOf]; omega
        · have hoffH := hide hoff
          clear hoff
          refine wp_region_k (fun _ W => Below N w8 W) (fun W => True) [7] (.op 0 (.op 1 (.op 2 (.op 3 (.op 4 (.op 5 (.op 6 (.op 8 (.op 9 (.op 10 (.op 11 (.op 12 (.op 13 (.op 14 (.op 15 (.op 7 (.op 16 (.op 17 (.op 18 (.op 19 (.op 20 (.op 21 (.op 22 (.op 23 (.op 24 (.op 25 (.op 26 (.op 27 (.op 28 (.op 29 (.op 30 (.op 31 (.op 32 (.op 33 (.op 34 (.op 35 (.op 36 (.op 37 (.op 38 (.op 39 (.op 40 (.op 41 .nil)))))))))))))))))))))))))))))))))))))))))) (by kernel_rfl) (by kernel_rfl) (by rfl) (by kernel_rfl) (hb0.out.drew) trivial ?_
          refine k_val (.bool true) (by apply opN; repeat' (first | apply OpAt.z | apply OpAt.s)) (by rfl) (by rfl) (fun _ W hS => op_mv rfl rfl) ?_
          simp only [Act.put, List.setIfInBounds_toArray, List.set_cons_zero, List.set_cons_succ]
          refine k_val (.bool false) (by apply opN; repeat' (first | apply OpAt.z | apply OpAt.s)) (by rfl) (by rfl) (fun _ W hS => op_notJ rfl rfl rfl) ?_
          simp only [Act.put, List.setIfInBounds_toArray, List.set_cons_zero, List.set_cons_succ]
          refine k_val (.bool false) (by apply opN; repeat' (first | apply OpAt.z | apply OpAt.s)) (by rfl) (by rfl) (fun _ W hS => op_mv rfl rfl) ?_
          simp only [Act.put, List.setIfInBounds_toArray, List.set_cons_zero, List.set_cons_succ]
          refine k_val (.pointer (some ⟨wb, 0, none⟩)) (by apply opN; repeat' (first | apply OpAt.z | apply OpAt.s)) (by rfl) (by rfl) (fun _ W hS => op_mv rfl rfl) ?_
          simp only [Act.put, List.setIfInBounds_toArray, List.set_cons_zero, List.set_cons_succ]
          refine k_val (.pointer (some ⟨wb, 0, none⟩)) (by apply opN; repeat' (first | apply OpAt.z | apply OpAt.s)) (by rfl) (by rfl) (fun _ W hS => op_nc rfl rfl) ?_
          simp only [Act.put, List.setIfInBounds_toArray, List.set_cons_zero, List.set_cons_succ]
          refine k_val (.pointer (some ⟨wb, 0, none⟩)) (by apply opN; repeat' (first | apply OpAt.z | apply OpAt.s)) (by rfl) (by rfl) (fun _ W hS => op_fa rfl rfl (fa_w (i := 0) (by decide) W)) ?_
          simp only [Act.put, List.setIfInBounds_toArray, List.set_cons_zero, List.set_cons_succ]
          refine k_val (.pointer (some ⟨b, 0, none⟩)) (by apply opN; repeat' (first | apply OpAt.z | apply OpAt.s)) (by rfl) (by rfl) (fun _ W hS => op_ld rfl rfl (ptr_ldd (cellAt (hn8.out W hS).1.1.row 0))) ?_
          simp only [Act.put, List.setIfInBounds_toArray, List.set_cons_zero, List.set_cons_succ]
          refine k_val (.pointer (some ⟨wb, 0, none⟩)) (by apply opN; repeat' (first | apply OpAt.z | apply OpAt.s)) (by rfl) (by rfl) (fun _ W hS => op_mv rfl rfl) ?_
          simp only [Act.put, List.setIfInBounds_toArray, List.set_cons_zero, List.set_cons_succ]
          refine k_val (.pointer (some ⟨wb, 0, none⟩)) (by apply opN; repeat' (first | apply OpAt.z | apply OpAt.s)) (by rfl) (by rfl) (fun _ W hS => op_nc rfl rfl) ?_
          simp only [Act.put, List.setIfInBounds_toArray, List.set_cons_zero, List.set_cons_succ]
          refine k_val (.pointer (some ⟨wb, 2, none⟩)) (by apply opN; repeat' (first | apply OpAt.z | apply OpAt.s)) (by rfl) (by rfl) (fun _ W hS => op_fa rfl rfl (fa_w (i := 2) (by decide) W)) ?_
          simp only [Act.put, List.setIfInBounds_toArray, List.set_cons_zero, List.set_cons_succ]
          refine k_val (.pointer (some ⟨rb, 0, none⟩)) (by apply opN; repeat' (first | apply OpAt.z | apply OpAt.s)) (by rfl) (by rfl) (fun _ W hS => op_ld rfl rfl (ptr_ldr (cellAt (hn8.out W hS).1.1.row 2))) ?_
          simp only [Act.put, List.setIfInBounds_toArray, List.set_cons_zero, List.set_cons_succ]
          refine k_val (.pointer (some ⟨rb, 0, none⟩)) (by apply opN; repeat' (first | apply OpAt.z | apply OpAt.s)) (by rfl) (by rfl) (fun _ W hS => op_nc rfl rfl) ?_
          simp only [Act.put, List.setIfInBounds_toArray, List.set_cons_zero, List.set_cons_succ]
          refine k_val (.pointer (some ⟨rb, 1, none⟩)) (by apply opN; repeat' (first | apply OpAt.z | apply OpAt.s)) (by rfl) (by rfl) (fun _ W hS => op_fa rfl rfl (fa_rd (i := 1) (by decide) W)) ?_
          simp only [Act.put, List.setIfInBounds_toArray, List.set_cons_zero, List.set_cons_succ]
          refine k_val (.slice ra S.pend.length rcp) (by apply opN; repeat' (first | apply OpAt.z | apply OpAt.s)) (by rfl) (by rfl) (fun _ W hS => op_ld rfl rfl (csl_ld (cellAt (hn8.out W hS).2.row 1))) ?_
          simp only [Act.put, List.setIfInBounds_toArray, List.set_cons_zero, List.set_cons_succ]
          refine k_val (.int .i64 (S.pend.length : Int)) (by apply opN; repeat' (first | apply OpAt.z | apply OpAt.s)) (by rfl) (by rfl) (fun _ W hS => op_lenc rfl rfl) ?_
          simp only [Act.put, List.setIfInBounds_toArray, List.set_cons_zero, List.set_cons_succ]
          refine k_step (fun K' u => u = .int .i64 (S.pend.length : Int) ∧ K' = fun _ => True) (by apply opN; repeat' (first | apply OpAt.z | apply OpAt.s)) (by rfl) (by rfl) (by rfl) (fun W hC hK => ?_) ?_
          · refine op_x1 (n := .pointer (some ⟨b, 0, none⟩)) rfl rfl rfl cf_pending ?_
            refine ((hn8.out W hC).1.pending).mono ?_
            rintro e w' ⟨rfl, rfl⟩
            exact ⟨_, rfl, hC, _, trivial, rfl, rfl⟩
          rintro _ _ ⟨rfl, rfl⟩
          simp only [Act.put, List.setIfInBounds_toArray, List.set_cons_zero, List.set_cons_succ]
          refine k_val (.bool false) (by apply opN; repeat' (first | apply OpAt.z | apply OpAt.s)) (by rfl) (by rfl) (fun _ W hS => op_neI rfl rfl rfl (by simp)) ?_
          simp only [Act.put, List.setIfInBounds_toArray, List.set_cons_zero, List.set_cons_succ]
          refine k_val (.bool false) (by apply opN; repeat' (first | apply OpAt.z | apply OpAt.s)) (by rfl) (by rfl) (fun _ W hS => op_pk rfl rfl rfl rfl rfl) ?_
          simp only [Act.put, List.setIfInBounds_toArray, List.set_cons_zero, List.set_cons_succ]
          refine k_val (.bool false) (by apply opN; repeat' (first | apply OpAt.z | apply OpAt.s)) (by rfl) (by rfl) (fun _ W hS => op_mv rfl rfl) ?_
          simp only [Act.put, List.setIfInBounds_toArray, List.set_cons_zero, List.set_cons_succ]
          refine k_val (.pointer (some ⟨wb, 0, none⟩)) (by apply opN; repeat' (first | apply OpAt.z | apply OpAt.s)) (by rfl) (by rfl) (fun _ W hS => op_mv rfl rfl) ?_
          simp only [Act.put, List.setIfInBounds_toArray, List.set_cons_zero, List.set_cons_succ]
          refine k_val (.pointer (some ⟨wb, 0, none⟩)) (by apply opN; repeat' (first | apply OpAt.z | apply OpAt.s)) (by rfl) (by rfl) (fun _ W hS => op_nc rfl rfl) ?_
          simp only [Act.put, List.setIfInBounds_toArray, List.set_cons_zero, List.set_cons_succ]
          refine k_val (.pointer (some ⟨wb, 2, none⟩)) (by apply opN; repeat' (first | apply OpAt.z | apply OpAt.s)) (by rfl) (by rfl) (fun _ W hS => op_fa rfl rfl (fa_w (i := 2) (by decide) W)) ?_
          simp only [Act.put, List.setIfInBounds_toArray, List.set_cons_zero, List.set_cons_succ]
          refine k_val (.pointer (some ⟨rb, 0, none⟩)) (by apply opN; repeat' (first | apply OpAt.z | apply OpAt.s)) (by rfl) (by rfl) (fun _ W hS => op_ld rfl rfl (ptr_ldr (cellAt (hn8.out W hS).1.1.row 2))) ?_
          simp only [Act.put, List.setIfInBounds_toArray, List.set_cons_zero, List.set_cons_succ]
          refine k_val (.pointer (some ⟨rb, 0, none⟩)) (by apply opN; repeat' (first | apply OpAt.z | apply OpAt.s)) (by rfl) (by rfl) (fun _ W hS => op_nc rfl rfl) ?_
          simp only [Act.put, List.setIfInBounds_toArray, List.set_cons_zero, List.set_cons_succ]
          refine k_val (.pointer (some ⟨rb, 2, none⟩)) (by apply opN; repeat' (first | apply OpAt.z | apply OpAt.s)) (by rfl) (by rfl) (fun _ W hS => op_fa rfl rfl (fa_rd (i := 2) (by decide) W)) ?_
          simp only [Act.put, List.setIfInBounds_toArray, List.set_cons_zero, List.set_cons_succ]
          refine k_val (.bool true) (by apply opN; repeat' (first | apply OpAt.z | apply OpAt.s)) (by rfl) (by rfl) (fun _ W hS => op_ld rfl rfl (bld ((cellAt (hn8.out W hS).2.row 2).trans (by rw [hoffH.out]; rfl)))) ?_
          simp only [Act.put, List.setIfInBounds_toArray, List.set_cons_zero, List.set_cons_succ]
          refine k_val (.bool false) (by apply opN; repeat' (first | apply OpAt.z | apply OpAt.s)) (by rfl) (by rfl) (fun _ W hS => op_notJ rfl rfl rfl) ?_
          simp only [Act.put, List.setIfInBounds_toArray, List.set_cons_zero, List.set_cons_succ]
          refine k_val (.bool false) (by apply opN; repeat' (first | apply OpAt.z | apply OpAt.s)) (by rfl) (by rfl) (fun _ W hS => op_mv rfl rfl) ?_
          simp only [Act.put, List.setIfInBounds_toArray, List.set_cons_zero, List.set_cons_succ]
          refine k_skip (by apply opN; repeat' (first | apply OpAt.z | apply OpAt.s)) (by rfl) (by rfl) ?_
          simp only [Act.put, List.setIfInBounds_toArray, List.set_cons_zero, List.set_cons_succ]
          refine k_skip (by apply opN; repeat' (first | apply OpAt.z | apply OpAt.s)) (by rfl) (by rfl) ?_
          simp only [Act.put, List.setIfInBounds_toArray, List.set_cons_zero, List.set_cons_succ]
          refine k_skip (by apply opN; repeat' (first | apply OpAt.z | apply OpAt.s)) (by rfl) (by rfl) ?_
          simp only [Act.put, List.setIfInBounds_toArray, List.set_cons_zero, List.set_cons_succ]
          refine k_skip (by apply opN; repeat' (first | apply OpAt.z | apply OpAt.s)) (by rfl) (by rfl) ?_
          simp only [Act.put, List.setIfInBounds_toArray, List.set_cons_zero, List.set_cons_succ]
          refine k_skip (by apply opN; repeat' (first | apply OpAt.z | apply OpAt.s)) (by rfl) (by rfl) ?_
          simp only [Act.put, List.setIfInBounds_toArray, List.set_cons_zero, List.set_cons_succ]
          refine k_skip (by apply opN; repeat' (first | apply OpAt.z | apply OpAt.s)) (by rfl) (by rfl) ?_
          simp only [Act.put, List.setIfInBounds_toArray, List.set_cons_zero, List.set_cons_succ]
          refine k_skip (by apply opN; repeat' (first | apply OpAt.z | apply OpAt.s)) (by rfl) (by rfl) ?_
          simp only [Act.put, List.setIfInBounds_toArray, List.set_cons_zero, List.set_cons_succ]
          refine k_skip (by apply opN; repeat' (first | apply OpAt.z | apply OpAt.s)) (by rfl) (by rfl) ?_
          simp only [Act.put, List.setIfInBounds_toArray, List.set_cons_zero, List.set_cons_succ]
          refine k_skip (by apply opN; repeat' (first | apply OpAt.z | apply OpAt.s)) (by rfl) (by rfl) ?_
          simp only [Act.put, List.setIfInBounds_toArray, List.set_cons_zero, List.set_cons_succ]
          refine k_skip (by apply opN; repeat' (first | apply OpAt.z | apply OpAt.s)) (by rfl) (by rfl) ?_
          simp only [Act.put, List.setIfInBounds_toArray, List.set_cons_zero, List.set_cons_succ]
          refine k_skip (by apply opN; repeat' (first | apply OpAt.z | apply OpAt.s)) (by rfl) (by rfl) ?_
          simp only [Act.put, List.setIfInBounds_toArray, List.set_cons_zero, List.set_cons_succ]
          refine k_skip (by apply opN; repeat' (first | apply OpAt.z | apply OpAt.s)) (by rfl) (by rfl) ?_
          simp only [Act.put, List.setIfInBounds_toArray, List.set_cons_zero, List.set_cons_succ]
          refine k_val (.bool false) (by apply opN; repeat' (first | apply OpAt.z | apply OpAt.s)) (by rfl) (by rfl) (fun _ W hS => op_pk rfl rfl rfl rfl rfl) ?_
          simp only [Act.put, List.setIfInBounds_toArray, List.set_cons_zero, List.set_cons_succ]
          refine k_val (.bool false) (by apply opN; repeat' (first | apply OpAt.z | apply OpAt.s)) (by rfl) (by rfl) (fun _ W hS => op_pk rfl rfl rfl rfl rfl) ?_
          simp only [Act.put, List.setIfInBounds_toArray, List.set_cons_zero, List.set_cons_succ]
          refine k_nil ?_
          intro W' hCW _
          go_upto_region 11 with fail
          refine gen_w (fun W2 => Below N w8 W2) hCW ?_
          clear hCW hb0
          rintro w9 hB9
          have hM9 := hide (hn8.out w9 hB9).1
          clear hn8 hoffH hB9 hM8
          obtain ⟨N9, hN9⟩ : ∃ N, N = w9.heap.size := ⟨_, rfl⟩
          have hN9H := hide hN9
          have hb9 := hide (show Below N9 w9 w9 from Below.refl _ _)
          have hn9 := hide (fun W (hW : Below N9 w9 W) => (show MJ B b z db vb rb wb jp8 kp8 S S jo jo w1 W ∧ True from ⟨hM9.out.next (hN9 ▸ hW), trivial⟩))
          clear hN9
          rcases jo with _ | ⟨rs, br⟩
          · obtain rfl : jp8 = none := hM9.out.2.1
            refine wp_region_k (fun _ W => Below N9 w9 W) (fun W => True) [] (.op 0 (.op 1 (.op 2 (.op 3 (.op 4 (.op 5 (.op 6 (.op 7 (.op 8 (.op 9 (.op 10 (.op 11 (.op 12 (.op 13 (.op 14 (.op 15 (.op 16 (.op 17 (.op 18 (.op 19 (.op 20 (.op 21 (.op 22 (.op 23 (.op 24 (.op 25 (.op 26 (.op 27 (.op 28 (.op 29 (.op 30 (.op 31 (.op 32 (.op 33 .nil)))))))))))))))))))))))))))))))))) (by kernel_rfl) (by kernel_rfl) (by rfl) (by kernel_rfl) (hb9.out.drew) trivial ?_
            refine k_val (.pointer (some ⟨wb, 0, none⟩)) (by apply opN; repeat' (first | apply OpAt.z | apply OpAt.s)) (by rfl) (by rfl) (fun _ W hS => op_mv rfl rfl) ?_
            simp only [Act.put, List.setIfInBounds_toArray, List.set_cons_zero, List.set_cons_succ]
            refine k_val (.pointer (some ⟨wb, 0, none⟩)) (by apply opN; repeat' (first | apply OpAt.z | apply OpAt.s)) (by rfl) (by rfl) (fun _ W hS => op_nc rfl rfl) ?_
            simp only [Act.put, List.setIfInBounds_toArray, List.set_cons_zero, List.set_cons_succ]
            refine k_val (.pointer (some ⟨wb, 1, none⟩)) (by apply opN; repeat' (first | apply OpAt.z | apply OpAt.s)) (by rfl) (by rfl) (fun _ W hS => op_fa rfl rfl (fa_w (i := 1) (by decide) W)) ?_
            simp only [Act.put, List.setIfInBounds_toArray, List.set_cons_zero, List.set_cons_succ]
            refine k_val (.pointer none) (by apply opN; repeat' (first | apply OpAt.z | apply OpAt.s)) (by rfl) (by rfl) (fun _ W hS => op_ld rfl rfl (ptr_ldjJ (cellAt (hn9.out W hS).1.1.row 1))) ?_
            simp only [Act.put, List.setIfInBounds_toArray, List.set_cons_zero, List.set_cons_succ]
            refine k_val (.bool false) (by apply opN; repeat' (first | apply OpAt.z | apply OpAt.s)) (by rfl) (by rfl) (fun _ W hS => op_nepj rfl rfl rfl rfl) ?_
            simp only [Act.put, List.setIfInBounds_toArray, List.set_cons_zero, List.set_cons_succ]
            refine k_val (.bool false) (by apply opN; repeat' (first | apply OpAt.z | apply OpAt.s)) (by rfl) (by rfl) (fun _ W hS => op_mv rfl rfl) ?_
            simp only [Act.put, List.setIfInBounds_toArray, List.set_cons_zero, List.set_cons_succ]
            refine k_skip (by apply opN; repeat' (first | apply OpAt.z | apply OpAt.s)) (by rfl) (by rfl) ?_
            simp only [Act.put, List.setIfInBounds_toArray, List.set_cons_zero, List.set_cons_succ]
            refine k_skip (by apply opN; repeat' (first | apply OpAt.z | apply OpAt.s)) (by rfl) (by rfl) ?_
            simp only [Act.put, List.setIfInBounds_toArray, List.set_cons_zero, List.set_cons_succ]
            refine k_skip (by apply opN; repeat' (first | apply OpAt.z | apply OpAt.s)) (by rfl) (by rfl) ?_
            simp only [Act.put, List.setIfInBounds_toArray, List.set_cons_zero, List.set_cons_succ]
            refine k_skip (by apply opN; repeat' (first | apply OpAt.z | apply OpAt.s)) (by rfl) (by rfl) ?_
            simp only [Act.put, List.setIfInBounds_toArray, List.set_cons_zero, List.set_cons_succ]
            refine k_skip (by apply opN; repeat' (first | apply OpAt.z | apply OpAt.s)) (by rfl) (by rfl) ?_
            simp only [Act.put, List.setIfInBounds_toArray, List.set_cons_zero, List.set_cons_succ]
            refine k_skip (by apply opN; repeat' (first | apply OpAt.z | apply OpAt.s)) (by rfl) (by rfl) ?_
            simp only [Act.put, List.setIfInBounds_toArray, List.set_cons_zero, List.set_cons_succ]
            refine k_skip (by apply opN; repeat' (first | apply OpAt.z | apply OpAt.s)) (by rfl) (by rfl) ?_
            simp only [Act.put, List.setIfInBounds_toArray, List.set_cons_zero, List.set_cons_succ]
            refine k_skip (by apply opN; repeat' (first | apply OpAt.z | apply OpAt.s)) (by rfl) (by rfl) ?_
            simp only [Act.put, List.setIfInBounds_toArray, List.set_cons_zero, List.set_cons_succ]
            refine k_skip (by apply opN; repeat' (first | apply OpAt.z | apply OpAt.s)) (by rfl) (by rfl) ?_
            simp only [Act.put, List.setIfInBounds_toArray, List.set_cons_zero, List.set_cons_succ]
            refine k_skip (by apply opN; repeat' (first | apply OpAt.z | apply OpAt.s)) (by rfl) (by rfl) ?_
            simp only [Act.put, List.setIfInBounds_toArray, List.set_cons_zero, List.set_cons_succ]
            refine k_skip (by apply opN; repeat' (first | apply OpAt.z | apply OpAt.s)) (by rfl) (by rfl) ?_
            simp only [Act.put, List.setIfInBounds_toArray, List.set_cons_zero, List.set_cons_succ]
            refine k_skip (by apply opN; repeat' (first | apply OpAt.z | apply OpAt.s)) (by rfl) (by rfl) ?_
            simp only [Act.put, List.setIfInBounds_toArray, List.set_cons_zero, List.set_cons_succ]
            refine k_skip (by apply opN; repeat' (first | apply OpAt.z | apply OpAt.s)) (by rfl) (by rfl) ?_
            simp only [Act.put, List.setIfInBounds_toArray, List.set_cons_zero, List.set_cons_succ]
            refine k_skip (by apply opN; repeat' (first | apply OpAt.z | apply OpAt.s)) (by rfl) (by rfl) ?_
            simp only [Act.put, List.setIfInBounds_toArray, List.set_cons_zero, List.set_cons_succ]
            refine k_skip (by apply opN; repeat' (first | apply OpAt.z | apply OpAt.s)) (by rfl) (by rfl) ?_
            simp only [Act.put, List.setIfInBounds_toArray, List.set_cons_zero, List.set_cons_succ]
            refine k_skip (by apply opN; repeat' (first | apply OpAt.z | apply OpAt.s)) (by rfl) (by rfl) ?_
            simp only [Act.put, List.setIfInBounds_toArray, List.set_cons_zero, List.set_cons_succ]
            refine k_skip (by apply opN; repeat' (first | apply OpAt.z | apply OpAt.s)) (by rfl) (by rfl) ?_
            simp only [Act.put, List.setIfInBounds_toArray, List.set_cons_zero, List.set_cons_succ]
            refine k_skip (by apply opN; repeat' (first | apply OpAt.z | apply OpAt.s)) (by rfl) (by rfl) ?_
            simp only [Act.put, List.setIfInBounds_toArray, List.set_cons_zero, List.set_cons_succ]
            refine k_skip (by apply opN; repeat' (first | apply OpAt.z | apply OpAt.s)) (by rfl) (by rfl) ?_
            simp only [Act.put, List.setIfInBounds_toArray, List.set_cons_zero, List.set_cons_succ]
            refine k_skip (by apply opN; repeat' (first | apply OpAt.z | apply OpAt.s)) (by rfl) (by rfl) ?_
            simp only [Act.put, List.setIfInBounds_toArray, List.set_cons_zero, List.set_cons_succ]
            refine k_skip (by apply opN; repeat' (first | apply OpAt.z | apply OpAt.s)) (by rfl) (by rfl) ?_
            simp only [Act.put, List.setIfInBounds_toArray, List.set_cons_zero, List.set_cons_succ]
            refine k_skip (by apply opN; repeat' (first | apply OpAt.z | apply OpAt.s)) (by rfl) (by rfl) ?_
            simp only [Act.put, List.setIfInBounds_toArray, List.set_cons_zero, List.set_cons_succ]
            refine k_skip (by apply opN; repeat' (first | apply OpAt.z | apply OpAt.s)) (by rfl) (by rfl) ?_
            simp only [Act.put, List.setIfInBounds_toArray, List.set_cons_zero, List.set_cons_succ]
            refine k_skip (by apply opN; repeat' (first | apply OpAt.z | apply OpAt.s)) (by rfl) (by rfl) ?_
            simp only [Act.put, List.setIfInBounds_toArray, List.set_cons_zero, List.set_cons_succ]
            refine k_skip (by apply opN; repeat' (first | apply OpAt.z | apply OpAt.s)) (by rfl) (by rfl) ?_
            simp only [Act.put, List.setIfInBounds_toArray, List.set_cons_zero, List.set_cons_succ]
            refine k_skip (by apply opN; repeat' (first | apply OpAt.z | apply OpAt.s)) (by rfl) (by rfl) ?_
            simp only [Act.put, List.setIfInBounds_toArray, List.set_cons_zero, List.set_cons_succ]
            refine k_skip (by apply opN; repeat' (first | apply OpAt.z | apply OpAt.s)) (by rfl) (by rfl) ?_
            simp only [Act.put, List.setIfInBounds_toArray, List.set_cons_zero, List.set_cons_succ]
            refine k_val (.bool false) (by apply opN; repeat' (first | apply OpAt.z | apply OpAt.s)) (by rfl) (by rfl) (fun _ W hS => op_pk rfl rfl rfl rfl rfl) ?_
            simp only [Act.put, List.setIfInBounds_toArray, List.set_cons_zero, List.set_cons_succ]
            refine k_nil ?_
            intro W' hCW _
            have hMf := hide (hn9.out W' hCW).1
            clear hCW hb9
            go_wp2
            go_roundw
            case rel => exact ⟨j + 1, by go_num, by omega, by omega, ⟨_, _, S, _, hMf.out, hR8.out.mono (by omega), hJ8.out⟩⟩
            case measure => simp [intOf]; omega
          · obtain ⟨jb, rv, rfl, _⟩ := hM9.out.2.1
            obtain ⟨kb, lv, rfl, hkr⟩ := hM9.out.2.2
            obtain ⟨la, lcp, elv⟩ := own_shape hkr.own
            subst elv
            obtain ⟨hfit, hlims⟩ := hJ8.out rs br rfl
            have hfit := hide hfit
            have hrl := hide (show rs.length ≤ 1500 by have := RW.stos_ge HH rs RW.z32; have := hfit.out; have := hzb.out.2; omega)
            have hk9 := hide (fun W (hW : Below N9 w9 W) => hkr.next (hN9H.out ▸ hW))
            clear hkr hlims
            refine wp_region_k (fun _ W => Below N9 w9 W) (fun W => True) [10, 18, 25, 30] (.op 0 (.op 1 (.op 2 (.op 3 (.op 4 (.op 5 (.op 6 (.op 7 (.op 8 (.op 9 (.op 11 (.op 12 (.op 13 (.op 14 (.op 15 (.op 16 (.op 17 (.op 10 (.op 18 (.op 19 (.op 20 (.op 21 (.op 22 (.op 23 (.op 24 (.op 26 (.op 27 (.op 28 (.op 29 (.op 25 (.op 30 (.op 31 (.op 32 (.op 33 .nil)))))))))))))))))))))))))))))))))) (by kernel_rfl) (by kernel_rfl) (by rfl) (by kernel_rfl) (hb9.out.drew) trivial ?_
            refine k_val (.pointer (some ⟨wb, 0, none⟩)) (by apply opN; repeat' (first | apply OpAt.z | apply OpAt.s)) (by rfl) (by rfl) (fun _ W hS => op_mv rfl rfl) ?_
            simp only [Act.put, List.setIfInBounds_toArray, List.set_cons_zero, List.set_cons_succ]
            refine k_val (.pointer (some ⟨wb, 0, none⟩)) (by apply opN; repeat' (first | apply OpAt.z | apply OpAt.s)) (by rfl) (by rfl) (fun _ W hS => op_nc rfl rfl) ?_
            simp only [Act.put, List.setIfInBounds_toArray, List.set_cons_zero, List.set_cons_succ]
            refine k_val (.pointer (some ⟨wb, 1, none⟩)) (by apply opN; repeat' (first | apply OpAt.z | apply OpAt.s)) (by rfl) (by rfl) (fun _ W hS => op_fa rfl rfl (fa_w (i := 1) (by decide) W)) ?_
            simp only [Act.put, List.setIfInBounds_toArray, List.set_cons_zero, List.set_cons_succ]
            refine k_val (.pointer (some ⟨jb, 0, none⟩)) (by apply opN; repeat' (first | apply OpAt.z | apply OpAt.s)) (by rfl) (by rfl) (fun _ W hS => op_ld rfl rfl (ptr_ldjJ (cellAt (hn9.out W hS).1.1.row 1))) ?_
            simp only [Act.put, List.setIfInBounds_toArray, List.set_cons_zero, List.set_cons_succ]
            refine k_val (.bool true) (by apply opN; repeat' (first | apply OpAt.z | apply OpAt.s)) (by rfl) (by rfl) (fun _ W hS => op_nepj rfl rfl rfl rfl) ?_
            simp only [Act.put, List.setIfInBounds_toArray, List.set_cons_zero, List.set_cons_succ]
            refine k_val (.bool true) (by apply opN; repeat' (first | apply OpAt.z | apply OpAt.s)) (by rfl) (by rfl) (fun _ W hS => op_mv rfl rfl) ?_
            simp only [Act.put, List.setIfInBounds_toArray, List.set_cons_zero, List.set_cons_succ]
            refine k_val (.pointer (some ⟨wb, 0, none⟩)) (by apply opN; repeat' (first | apply OpAt.z | apply OpAt.s)) (by rfl) (by rfl) (fun _ W hS => op_mv rfl rfl) ?_
            simp only [Act.put, List.setIfInBounds_toArray, List.set_cons_zero, List.set_cons_succ]
            refine k_val (.pointer (some ⟨wb, 0, none⟩)) (by apply opN; repeat' (first | apply OpAt.z | apply OpAt.s)) (by rfl) (by rfl) (fun _ W hS => op_nc rfl rfl) ?_
            simp only [Act.put, List.setIfInBounds_toArray, List.set_cons_zero, List.set_cons_succ]
            refine k_val (.pointer (some ⟨wb, 1, none⟩)) (by apply opN; repeat' (first | apply OpAt.z | apply OpAt.s)) (by rfl) (by rfl) (fun _ W hS => op_fa rfl rfl (fa_w (i := 1) (by decide) W)) ?_
            simp only [Act.put, List.setIfInBounds_toArray, List.set_cons_zero, List.set_cons_succ]
            refine k_val (.pointer (some ⟨jb, 0, none⟩)) (by apply opN; repeat' (first | apply OpAt.z | apply OpAt.s)) (by rfl) (by rfl) (fun _ W hS => op_ld rfl rfl (ptr_ldjJ (cellAt (hn9.out W hS).1.1.row 1))) ?_
            simp only [Act.put, List.setIfInBounds_toArray, List.set_cons_zero, List.set_cons_succ]
            refine k_val (.pointer (some ⟨wb, 0, none⟩)) (by apply opN; repeat' (first | apply OpAt.z | apply OpAt.s)) (by rfl) (by rfl) (fun _ W hS => op_mv rfl rfl) ?_
            simp only [Act.put, List.setIfInBounds_toArray, List.set_cons_zero, List.set_cons_succ]
            refine k_val (.pointer (some ⟨wb, 0, none⟩)) (by apply opN; repeat' (first | apply OpAt.z | apply OpAt.s)) (by rfl) (by rfl) (fun _ W hS => op_nc rfl rfl) ?_
            simp only [Act.put, List.setIfInBounds_toArray, List.set_cons_zero, List.set_cons_succ]
            refine k_val (.pointer (some ⟨wb, 3, none⟩)) (by apply opN; repeat' (first | apply OpAt.z | apply OpAt.s)) (by rfl) (by rfl) (fun _ W hS => op_fa rfl rfl (fa_w (i := 3) (by decide) W)) ?_
            simp only [Act.put, List.setIfInBounds_toArray, List.set_cons_zero, List.set_cons_succ]
            refine k_val (.pointer (some ⟨kb, 0, none⟩)) (by apply opN; repeat' (first | apply OpAt.z | apply OpAt.s)) (by rfl) (by rfl) (fun _ W hS => op_ld rfl rfl (ptr_ldk (cellAt (hn9.out W hS).1.1.row 3))) ?_
            simp only [Act.put, List.setIfInBounds_toArray, List.set_cons_zero, List.set_cons_succ]
            refine k_val (.pointer (some ⟨kb, 0, none⟩)) (by apply opN; repeat' (first | apply OpAt.z | apply OpAt.s)) (by rfl) (by rfl) (fun _ W hS => op_nc rfl rfl) ?_
            simp only [Act.put, List.setIfInBounds_toArray, List.set_cons_zero, List.set_cons_succ]
            refine k_val (.pointer (some ⟨kb, 1, none⟩)) (by apply opN; repeat' (first | apply OpAt.z | apply OpAt.s)) (by rfl) (by rfl) (fun _ W hS => op_fa rfl rfl (fa_rj (i := 1) (by decide) W)) ?_
            simp only [Act.put, List.setIfInBounds_toArray, List.set_cons_zero, List.set_cons_succ]
            refine k_val (.slice la rs.length lcp) (by apply opN; repeat' (first | apply OpAt.z | apply OpAt.s)) (by rfl) (by rfl) (fun _ W hS => op_ld rfl rfl (sl_ld (hk9.out W hS).c1)) ?_
            simp only [Act.put, List.setIfInBounds_toArray, List.set_cons_zero, List.set_cons_succ]
            refine k_step (fun K' u => K' = fun W => StrR W u rs) (by apply opN; repeat' (first | apply OpAt.z | apply OpAt.s)) (by rfl) (by rfl) (by rfl) (fun W hC hK => ?_) ?_
            · refine op_x1 (n := .pointer (some ⟨jb, 0, none⟩)) rfl rfl rfl cf_records ?_
              refine ((hn9.out W hC).1.records hzb.out.2 hfit.out).mono ?_
              rintro e w' ⟨u, rfl, g1, g2⟩
              exact ⟨_, rfl, hC.trans (g2.mono (by rw [hN9H.out]; exact hC.size)), _, g1, rfl⟩
            rintro _ ur rfl
            simp only [Act.put, List.setIfInBounds_toArray, List.set_cons_zero, List.set_cons_succ]
            refine k_step (fun K' u => u = .bool true ∧ K' = fun _ => True) (by apply opN; repeat' (first | apply OpAt.z | apply OpAt.s)) (by rfl) (by rfl) (by rfl) (fun W hC hK => ?_) ?_
            · refine op_x2 (n := ur) (m := .slice la rs.length lcp) rfl rfl rfl rfl cf_same20 ?_
              refine (same20_any ur (.slice la rs.length lcp) rs rs W hK (strs_own (hk9.out W hC).own) (by have := hrl.out; omega) (by have := hrl.out; omega)).mono ?_
              rintro e w' ⟨rfl, g2⟩
              exact ⟨_, rfl, hC.trans (g2.mono (by rw [hN9H.out]; exact hC.size)), _, trivial, by simp, rfl⟩
            rintro _ _ ⟨rfl, rfl⟩
            simp only [Act.put, List.setIfInBounds_toArray, List.set_cons_zero, List.set_cons_succ]
            refine k_val (.bool false) (by apply opN; repeat' (first | apply OpAt.z | apply OpAt.s)) (by rfl) (by rfl) (fun _ W hS => op_notJ rfl rfl rfl) ?_
            simp only [Act.put, List.setIfInBounds_toArray, List.set_cons_zero, List.set_cons_succ]
            refine k_val (.bool false) (by apply opN; repeat' (first | apply OpAt.z | apply OpAt.s)) (by rfl) (by rfl) (fun _ W hS => op_mv rfl rfl) ?_
            simp only [Act.put, List.setIfInBounds_toArray, List.set_cons_zero, List.set_cons_succ]
            refine k_val (.pointer (some ⟨wb, 0, none⟩)) (by apply opN; repeat' (first | apply OpAt.z | apply OpAt.s)) (by rfl) (by rfl) (fun _ W hS => op_mv rfl rfl) ?_
            simp only [Act.put, List.setIfInBounds_toArray, List.set_cons_zero, List.set_cons_succ]
            refine k_val (.pointer (some ⟨wb, 0, none⟩)) (by apply opN; repeat' (first | apply OpAt.z | apply OpAt.s)) (by rfl) (by rfl) (fun _ W hS => op_nc rfl rfl) ?_
            simp only [Act.put, List.setIfInBounds_toArray, List.set_cons_zero, List.set_cons_succ]
            refine k_val (.pointer (some ⟨wb, 1, none⟩)) (by apply opN; repeat' (first | apply OpAt.z | apply OpAt.s)) (by rfl) (by rfl) (fun _ W hS => op_fa rfl rfl (fa_w (i := 1) (by decide) W)) ?_
            simp only [Act.put, List.setIfInBounds_toArray, List.set_cons_zero, List.set_cons_succ]
            refine k_val (.pointer (some ⟨jb, 0, none⟩)) (by apply opN; repeat' (first | apply OpAt.z | apply OpAt.s)) (by rfl) (by rfl) (fun _ W hS => op_ld rfl rfl (ptr_ldjJ (cellAt (hn9.out W hS).1.1.row 1))) ?_
            simp only [Act.put, List.setIfInBounds_toArray, List.set_cons_zero, List.set_cons_succ]
            refine k_val (.pointer (some ⟨wb, 0, none⟩)) (by apply opN; repeat' (first | apply OpAt.z | apply OpAt.s)) (by rfl) (by rfl) (fun _ W hS => op_mv rfl rfl) ?_
            simp only [Act.put, List.setIfInBounds_toArray, List.set_cons_zero, List.set_cons_succ]
            refine k_val (.pointer (some ⟨wb, 0, none⟩)) (by apply opN; repeat' (first | apply OpAt.z | apply OpAt.s)) (by rfl) (by rfl) (fun _ W hS => op_nc rfl rfl) ?_
            simp only [Act.put, List.setIfInBounds_toArray, List.set_cons_zero, List.set_cons_succ]
            refine k_val (.pointer (some ⟨wb, 3, none⟩)) (by apply opN; repeat' (first | apply OpAt.z | apply OpAt.s)) (by rfl) (by rfl) (fun _ W hS => op_fa rfl rfl (fa_w (i := 3) (by decide) W)) ?_
            simp only [Act.put, List.setIfInBounds_toArray, List.set_cons_zero, List.set_cons_succ]
            refine k_val (.pointer (some ⟨kb, 0, none⟩)) (by apply opN; repeat' (first | apply OpAt.z | apply OpAt.s)) (by rfl) (by rfl) (fun _ W hS => op_ld rfl rfl (ptr_ldk (cellAt (hn9.out W hS).1.1.row 3))) ?_
            simp only [Act.put, List.setIfInBounds_toArray, List.set_cons_zero, List.set_cons_succ]
            refine k_step (fun K' u => u = .int .i64 ((z : Int) - ((RW.stos HH RW.z32 rs).length : Int)) ∧ K' = fun _ => True) (by apply opN; repeat' (first | apply OpAt.z | apply OpAt.s)) (by rfl) (by rfl) (by rfl) (fun W hC hK => ?_) ?_
            · refine op_x1 (n := .pointer (some ⟨jb, 0, none⟩)) rfl rfl rfl cf_room ?_
              refine ((hn9.out W hC).1.room_c hzb.out.2 hfit.out).mono ?_
              rintro e w' ⟨rfl, g2⟩
              exact ⟨_, rfl, hC.trans (g2.mono (by rw [hN9H.out]; exact hC.size)), _, trivial, rfl, rfl⟩
            rintro _ _ ⟨rfl, rfl⟩
            simp only [Act.put, List.setIfInBounds_toArray, List.set_cons_zero, List.set_cons_succ]
            refine k_step (fun K' u => u = .int .i64 ((z : Int) - ((RW.stos HH RW.z32 rs).length : Int)) ∧ K' = fun _ => True) (by apply opN; repeat' (first | apply OpAt.z | apply OpAt.s)) (by rfl) (by rfl) (by rfl) (fun W hC hK => ?_) ?_
            · refine op_x1 (n := .pointer (some ⟨kb, 0, none⟩)) rfl rfl rfl cf_rroom ?_
              refine ((hn9.out W hC).1.room_r hzb.out.2 hfit.out).mono ?_
              rintro e w' ⟨rfl, g2⟩
              exact ⟨_, rfl, hC.trans (g2.mono (by rw [hN9H.out]; exact hC.size)), _, trivial, rfl, rfl⟩
            rintro _ _ ⟨rfl, rfl⟩
            simp only [Act.put, List.setIfInBounds_toArray, List.set_cons_zero, List.set_cons_succ]
            refine k_val (.bool false) (by apply opN; repeat' (first | apply OpAt.z | apply OpAt.s)) (by rfl) (by rfl) (fun _ W hS => op_neI rfl rfl rfl (by simp)) ?_
            simp only [Act.put, List.setIfInBounds_toArray, List.set_cons_zero, List.set_cons_succ]
            refine k_val (.bool false) (by apply opN; repeat' (first | apply OpAt.z | apply OpAt.s)) (by rfl) (by rfl) (fun _ W hS => op_pk rfl rfl rfl rfl rfl) ?_
            simp only [Act.put, List.setIfInBounds_toArray, List.set_cons_zero, List.set_cons_succ]
            refine k_val (.bool false) (by apply opN; repeat' (first | apply OpAt.z | apply OpAt.s)) (by rfl) (by rfl) (fun _ W hS => op_pk rfl rfl rfl rfl rfl) ?_
            simp only [Act.put, List.setIfInBounds_toArray, List.set_cons_zero, List.set_cons_succ]
            refine k_nil ?_
            intro W' hCW _
            have hMf := hide (hn9.out W' hCW).1
            clear hCW hb9
            go_wp2
            go_roundw
            case rel => exact ⟨j + 1, by go_num, by omega, by omega, ⟨_, _, S, _, hMf.out, hR8.out.mono (by omega), hJ8.out⟩⟩
            case measure => simp [intOf]; omega
      · obtain rfl : j = 25 := by omega
        go_wp2
        go_ret
        exact ⟨rfl, hB1H.out.trans (hM.out.1.bel.mono hwB.out)⟩
    · obtain rfl : m = j := by omega
      go_wp2
      go_ret
      exact ⟨rfl, hB1H.out.trans (hM.out.1.bel.mono hwB.out)⟩
end Go.Proofs.YtllbphanfahkkaaGreatDoor

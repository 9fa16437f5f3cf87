/-
  Package royaltylaw23: begin and does: both journals agree.
-/
import Derived.Test.YtllbphanfahkkaaGreatDoorMY5
namespace Go.Proofs.YtllbphanfahkkaaGreatDoor
open Go.RowKit RG
theorem RefAt.mono {W : World} {B B' b n sb : Nat} {L : List UInt8} {pv : Value} {S : RW.Dk} (h : RefAt W B b n sb L pv S) (hb : B' ≤ B) : RefAt W B' b n sb L pv S := ⟨h.row, h.sure, h.ld, h.ln, own_base h.pend hb, Nat.le_trans hb h.hb, Nat.le_trans hb h.hs, h.hn, h.lf⟩
set_option maxRecDepth 100000 in
set_option maxHeartbeats 4000000 in
theorem begin_any {ks : Array Value} {a : Addr} (hks : RW.WsOk ks RW.k0F) (c : Int) (hc : -9223372036854775808 ≤ c) (hc2 : c ≤ 9223372036854775807) (z : Nat) (hz : 1 + RW.pickI c 1500 = (z : Int)) (W : World)
    (hnx : ∀ W', Below W.heap.size W W' → KLaid W' ks ∧ W'.cell? ⟨1, 0, none⟩ = some (RW.jeW a)) :
    Calls Tryz.prog 10 #[.int .i64 c] W fun e w' => ∃ b db vb rb wb jp kp, e = .returned (.tuple #[.pointer (some ⟨wb, 0, none⟩), .bool true]) ∧ MJ W.heap.size b z db vb rb wb jp kp (RW.dk0 z) (RW.dk0 z) (some ([], false)) (some ([], false)) W w' := by
  have hzb := hide (show 1 ≤ z ∧ z ≤ 1500 by have := RW.pickI_bd c 1500 (by decide); omega)
  have hSz := hide (fun W => lsize_any c hc hc2 z hz W)
  have hN := hide (new_any z hzb.out.1 (by have := hzb.out.2; omega) W)
  have hNr := hide (fun W => rnew_any z hzb.out.1 (by have := hzb.out.2; omega) W)
  have hnxH := hide hnx
  obtain ⟨B, hB⟩ : ∃ B, B = W.heap.size := ⟨_, rfl⟩
  have hBH := hide hB
  rw [← hB] at hN hnxH
  rw [← hB]
  clear hz hc hc2 hnx hB
  go_enter Tryz.func10, Tryz.ntmps10
  go_upto_region 2 with (first
    | (go_at_call 16; refine (hSz.out _).mono ?_; rintro e w' ⟨rfl, rfl⟩)
    | (go_at_call 25; refine hN.out.mono ?_; rintro e w2 ⟨b, rfl, hd1, hB2⟩; obtain ⟨db, vb, hd1⟩ := hd1; have hD2 := hide hd1; have hB2H := hide hB2; clear hd1 hB2))
  clear hN
  go_upto_region 3 with (first
    | (go_at_call 16; refine (hSz.out _).mono ?_; rintro e w' ⟨rfl, rfl⟩)
    | (go_at_call 38; refine (hNr.out _).mono ?_; rintro e w3 ⟨rb, rfl, hr1, hB3⟩; obtain ⟨sb, hr1⟩ := hr1; have hR3 := hide hr1; have hB3H := hide hB3; clear hr1 hB3))
  have hM3 := hide (show ∀ wb, wb = w3.heap.size → MJ B b z db vb rb wb none none (RW.dk0 z) (RW.dk0 z) none none W (w3.alloc (.cells (wl4 b rb none none) 32)) from fun wb hwb => by
    have hbl : Below w3.heap.size w3 (w3.alloc (.cells (wl4 b rb none none) 32)) := alloc_bel (Below.refl _ _) (Nat.le_refl _) _
    have h23 : B ≤ w2.heap.size := by rw [hBH.out]; exact hB2H.out.size
    have h3 : B ≤ w3.heap.size := Nat.le_trans h23 hB3H.out.size
    have hR := (hR3.out.mono h23).next hbl
    have hD := (hD2.out.next hB3H.out).next hbl
    refine ⟨⟨⟨_, hD⟩, ⟨sb, _, _, hR, ?_, ?_⟩, by rw [hwb]; exact alloc_at1 _ _, by omega, (hB2H.out.trans (hB3H.out.mono h23)).trans (hbl.mono h3)⟩, rfl, rfl⟩
    · have h1 := hD2.out.lt; have h2 := hR3.out.hs; omega
    · have h1 := hD2.out.lt; have h2 := hR3.out.hs; omega)
  obtain ⟨wb, hwb⟩ : ∃ wb, wb = w3.heap.size := ⟨_, rfl⟩
  go_upto_region 4 with fail
  rw [← hwb]
  refine gen_w (fun W4 => MJ B b z db vb rb wb none none (RW.dk0 z) (RW.dk0 z) none none W W4) (hM3.out wb hwb) ?_
  clear hM3 hD2 hB2H hR3 hB3H hNr hSz hwb
  rintro w4 hM4
  have hOp := hide (wopen_any hks hM4 hzb.out.1 (RW.rg_dk0 z 0) (by decide) (a := a) hnxH.out)
  have hjo : RW.jopen HH z (RW.dk0 z) = (0, some [], RW.dk0 z) := RW.jopen_inv HH (RW.sha_len RW.k0F) (RW.inv_dk0 z)
  rw [show joOpen z (RW.dk0 z) = some ([], false) by unfold joOpen; rw [hjo]; rfl, hjo] at hOp
  clear hM4 hjo hnxH
  go_wp2_with (go_at_call 18; refine hOp.out.mono ?_; rintro e w5 ⟨rfl, ⟨jp, kp, h5⟩, _⟩; have hM5 := hide h5; clear h5)
  go_ret2
  exact ⟨b, db, vb, rb, wb, jp, kp, rfl, hM5.out⟩
theorem op_eqE {ev : Operand → Value} {o : Oper} {x y : Operand} {w : World} {a b : Int} {r : Bool} (ho : o.op = .binOp .eql 33 x y 33) (hx : ev x = .int .i64 a) (hy : ev y = .int .i64 b) (h : decide (a = b) = r) : (execOp ev o).run Tryz.prog w = .ok (.value (.bool r)) w := by
  unfold execOp
  rw [ho]
  go_simp
  exact h
theorem cf_pick : ∀ args w, (callFunc 15 args).run Tryz.prog w = .ok (.enter 15 args) w := fun args w => by go_simp
theorem cf_cut : ∀ args w, (callFunc 30 args).run Tryz.prog w = .ok (.enter 30 args) w := fun args w => by go_simp
theorem cf_rcut : ∀ args w, (callFunc 71 args).run Tryz.prog w = .ok (.enter 71 args) w := fun args w => by go_simp
theorem cf_rcrash : ∀ args w, (callFunc 72 args).run Tryz.prog w = .ok (.enter 72 args) w := fun args w => by go_simp
theorem cf_append : ∀ args w, (callFunc 11 args).run Tryz.prog w = .ok (.enter 11 args) w := fun args w => by go_simp
theorem cf_rappend : ∀ args w, (callFunc 13 args).run Tryz.prog w = .ok (.enter 13 args) w := fun args w => by go_simp
theorem fa_w {b i : Nat} (hi : i < 4) (W : World) : (Instr.fieldAt 32 (.pointer (some ⟨b, 0, none⟩)) i).run Tryz.prog W = .ok (.pointer (some ⟨b, i, none⟩)) W := by
  match i, hi with
  | 0, _ => go_simp
  | 1, _ => go_simp
  | 2, _ => go_simp
  | 3, _ => go_simp
theorem ptr_ldjJ {W : World} {g i : Nat} {p : Option Addr} (h : W.cell? ⟨g, i, none⟩ = some (.pointer p)) : (ldRow 28 (.pointer (some ⟨g, i, none⟩))).run Tryz.prog W = .ok (.pointer p) W := by
  unfold ldRow
  go_simp
theorem ptr_ldk {W : World} {g i : Nat} {p : Option Addr} (h : W.cell? ⟨g, i, none⟩ = some (.pointer p)) : (ldRow 30 (.pointer (some ⟨g, i, none⟩))).run Tryz.prog W = .ok (.pointer p) W := by
  unfold ldRow
  go_simp
/-- the law's row, the call's row, what is older -/
structure DoC (B b rb wb ob : Nat) (jp kp : Option Addr) (cs : Array Value) (w W : World) : Prop where
  bel : Below B w W
  row : W.heap[wb]? = some (.cells (wl4 b rb jp kp) 32 (0, 0))
  op : W.heap[ob]? = some (.cells cs 62 (0, 0))
theorem DoC.next {W W' w : World} {B b rb wb ob : Nat} {jp kp : Option Addr} {cs : Array Value} (h : DoC B b rb wb ob jp kp cs w W) (hB : B ≤ W.heap.size) (hb : Below W.heap.size W W') : DoC B b rb wb ob jp kp cs w W' := ⟨h.bel.trans (hb.mono hB), (hb.block _ (Array.getElem?_eq_some_iff.1 h.row).1).trans h.row, (hb.block _ (Array.getElem?_eq_some_iff.1 h.op).1).trans h.op⟩
theorem DoC.of {W W' w : World} {B b n db vb rb wb ob : Nat} {jp kp : Option Addr} {S SR : RW.Dk} {jo jr : Option (List ByteArray × Bool)} {cs : Array Value} (h : DoC B b rb wb ob jp kp cs w W) (hM : MJ B b n db vb rb wb jp kp S SR jo jr w W') (hO : OpK W W') : DoC B b rb wb ob jp kp cs w W' := ⟨hM.1.bel, hM.1.row, (hO _ _ _ h.op).trans h.op⟩
/-- what a journal's records keep -/
def JoOk (n : Nat) (jo : Option (List ByteArray × Bool)) : Prop := ∀ rs br, jo = some (rs, br) → (RW.stos HH RW.z32 rs).length ≤ n ∧ ∀ r ∈ rs, r.size ≤ 65536
theorem JoOk.open {n : Nat} {S : RW.Dk} (hl : S.vis.length = n) : JoOk n (joOpen n S) := by
  intro rs br h
  unfold joOpen at h
  rcases hj : (RW.jopen HH n S).2.1 with _ | rs'
  · rw [hj] at h; cases h
  · rw [hj] at h
    cases h
    have key : ∃ k, RW.ldL HH RW.z32 S.vis = some (rs, k) := by
      unfold RW.jopen at hj
      split at hj
      · cases hj
      · split at hj
        · cases hj
        · rename_i rs2 k hL
          refine ⟨k, ?_⟩
          split at hj
          · cases hj; exact hL
          · split at hj
            · cases hj
            · split at hj
              · cases hj
              · cases hj; exact hL
    obtain ⟨k, hL⟩ := key
    obtain ⟨_, h2, h3, _, h5⟩ := RW.ldL_sound' HH (RW.sha_len RW.k0F) hL
    exact ⟨by rw [h3, ← hl]; exact h2, h5⟩
theorem JoOk.app {n : Nat} {S : RW.Dk} {rs l : List ByteArray} {br : Bool} (h : JoOk n (some (rs, br))) (hl : ∀ r ∈ l, r.size ≤ 65536) : JoOk n (some ((RW.japp HH n S rs br l).2.1, (RW.japp HH n S rs br l).2.2.1)) := by
  obtain ⟨h1, h2⟩ := h rs br rfl
  intro rs' br' e
  have e1 : (RW.japp HH n S rs br l).2.1 = rs' := by injection e with e; injection e
  subst e1
  unfold RW.japp
  split
  · exact ⟨h1, h2⟩
  · split
    · exact ⟨h1, h2⟩
    · rename_i hf
      split
      · exact ⟨h1, h2⟩
      · split
        · exact ⟨h1, h2⟩
        · split
          · exact ⟨h1, h2⟩
          · refine ⟨by rw [RW.stos_app, List.length_append]; omega, fun r hr => ?_⟩
            rcases List.mem_append.1 hr with hr | hr
            · exact h2 r hr
            · exact hl r hr
def DoesOut (B b n db vb rb wb p : Nat) (w : World) (e : Ending) (w' : World) : Prop := e = .returned (.bool true) ∧ ∃ jp kp S jo, MJ B b n db vb rb wb jp kp S S jo jo w w' ∧ RW.Rg n S p ∧ JoOk n jo
set_option maxRecDepth 100000 in
set_option maxHeartbeats 16000000 in
theorem does_any {B b n db vb rb wb p : Nat} {jp kp : Option Addr} {S : RW.Dk} {jo : Option (List ByteArray × Bool)} {w W : World} {ks : Array Value} {a : Addr} (hks : RW.WsOk ks RW.k0F) (h : MJ B b n db vb rb wb jp kp S S jo jo w W) (hn1 : 1 ≤ n) (hg : RW.Rg n S p) (hp : p < 800000) (hjo : JoOk n jo) (x : RW.Opc)
    (hnx : ∀ W', Below B w W' → KLaid W' ks ∧ W'.cell? ⟨1, 0, none⟩ = some (RW.jeW a) ∧ OpG W' x) :
    Calls Tryz.prog 32 #[.pointer (some ⟨wb, 0, none⟩), .agg (RW.opl x).toArray] W (DoesOut B b n db vb rb wb (p + 2) w) := by
  obtain ⟨xk, xlv, xl, xn, xkv, xkeep⟩ := x
  have hG0 := (hnx W h.1.bel).2.2
  obtain ⟨pa, pc, epv, _⟩ := id hG0.1
  obtain ⟨ka, kcap, ekv, _⟩ := id hG0.2.2.1
  obtain ⟨pn, hpnE⟩ : ∃ pn, pn = xl.length := ⟨_, rfl⟩
  obtain ⟨q, hqE⟩ : ∃ q, q = xkeep.length := ⟨_, rfl⟩
  change xlv = Value.slice pa xl.length pc at epv
  change xkv = Value.slice ka xkeep.length kcap at ekv
  rw [← hpnE] at epv
  rw [← hqE] at ekv
  subst epv ekv
  have hbd := hide hG0.2.2.2.2
  have hnxH := hide (fun W' (hW : Below B w W') => (show KLaid W' ks ∧ W'.cell? ⟨1, 0, none⟩ = some (RW.jeW a) ∧ StrR W' (.slice pa pn pc) xl ∧ IntR W' (.slice ka q kcap) xkeep from ⟨(hnx W' hW).1, (hnx W' hW).2.1, (hnx W' hW).2.2.1, (hnx W' hW).2.2.2.2.1⟩))
  have hpnH := hide (show xl.length ≤ 9223372036854775807 from hG0.2.1)
  have hqH := hide hqE
  have hqb := hide (row_cap (hnxH.out W h.1.bel).2.2.2)
  clear hG0 hpnE hqE hnx
  obtain ⟨L, hLe⟩ : ∃ L, L = RW.fewL xl := ⟨_, rfl⟩
  have hLl := hide (show L.length ≤ 6 by rw [hLe]; exact RW.fewL_len xl)
  have hLs := hide (show ∀ r ∈ L, r.size ≤ 65536 by rw [hLe]; exact fun r hr => by have := RW.fewL_size xl r hr; omega)
  have hFw := hide (fun W' (hW : Below B w W') => (show Calls Tryz.prog 12 #[.slice pa pn pc] W' fun e w' => ∃ u, e = .returned u ∧ StrsOwn w' W'.heap.size u L ∧ Below W'.heap.size W' w' from by rw [hLe]; exact few_any _ xl W' (hnxH.out W' hW).2.2.1 hpnH.out))
  clear hLe
  have hPk := hide (fun W => pick_any xk 8 hbd.out.1.1 hbd.out.1.2 (by decide) (by decide) W)
  obtain ⟨pk, hpk⟩ : ∃ pk, pk = RW.pickI xk 8 := ⟨_, rfl⟩
  have hpkb1 : 0 ≤ pk := by rw [hpk]; exact (RW.pickI_bd xk 8 (by decide)).1
  have hpkb2 : pk < 8 := by rw [hpk]; exact (RW.pickI_bd xk 8 (by decide)).2
  rw [← hpk] at hPk
  clear hpk
  obtain ⟨ob, hob⟩ : ∃ ob, ob = W.heap.size := ⟨_, rfl⟩
  have hM0 := hide (h.next (alloc_bel (Below.refl W.heap.size W) (Nat.le_refl _) (.cells #[.int .i64 xk, .slice pa pn pc, .int .i64 xn, .slice ka q kcap] 62)))
  have hC0 := hide (show DoC B b rb wb ob jp kp #[.int .i64 xk, .slice pa pn pc, .int .i64 xn, .slice ka q kcap] w (W.alloc (.cells #[.int .i64 xk, .slice pa pn pc, .int .i64 xn, .slice ka q kcap] 62)) from ⟨hM0.out.1.bel, hM0.out.1.row, by rw [hob]; exact alloc_at1 _ _⟩)
  have hgH := hide hg
  have hjoH := hide hjo
  clear h hg hjo
  rw [show (RW.opl ⟨xk, .slice pa pn pc, xl, xn, .slice ka q kcap, xkeep⟩).toArray = #[.int .i64 xk, .slice pa pn pc, .int .i64 xn, .slice ka q kcap] from rfl]
  go_enter Tryz.func32, Tryz.ntmps32
  go_upto_region 1 with fail
  rw [← hob]
  refine gen_w (fun W1 => MJ B b n db vb rb wb jp kp S S jo jo w W1 ∧ DoC B b rb wb ob jp kp #[.int .i64 xk, .slice pa pn pc, .int .i64 xn, .slice ka q kcap] w W1) ⟨hM0.out, hC0.out⟩ ?_
  clear hM0 hC0 hob
  rintro w1 ⟨g1, g2⟩
  have hM1 := hide g1
  have hC1 := hide g2
  clear g1 g2
  obtain ⟨CS, hCS⟩ : ∃ CS : Array Value, CS = #[.int .i64 xk, .slice pa pn pc, .int .i64 xn, .slice ka q kcap] := ⟨_, rfl⟩
  have hck : w1.cell? ⟨ob, 0, none⟩ = some (.int .i64 xk) := cellAt hC1.out.op 0
  go_upto_region 2 with (go_at_call 15; refine (hPk.out _).mono ?_; rintro e w' ⟨rfl, rfl⟩)
  rw [← hCS] at hC1
  have hCSH := hide hCS
  clear hck hPk hCS
  by_cases hp5 : pk = 5
  · subst hp5
    obtain ⟨kc, hkc, hkc1, hkc3⟩ := RW.pick_nat xn 5 (by decide)
    have hPk := hide (fun W => pick_any xn 5 hbd.out.2.1 hbd.out.2.2 (by decide) (by decide) W)
    obtain ⟨pd, hpd⟩ : ∃ pd, pd = RW.pickI xn 5 := ⟨_, rfl⟩
    rw [← hpd] at hPk hkc
    have hkcH := hide hkc
    clear hpd hkc
    obtain ⟨f5, hf5⟩ : ∃ f, f = (S.cut (kc : Int)).1 := ⟨_, rfl⟩
    obtain ⟨S5, hS5⟩ : ∃ s, s = (S.cut (kc : Int)).2 := ⟨_, rfl⟩
    have hg5 := hide (hS5 ▸ hgH.out.cut (kc : Int))
    have hCc := hide (fun W' SR (h' : MJ B b n db vb rb wb jp kp S SR jo jo w W') => h'.cut_c (kc : Int) (by omega))
    have hCr := hide (fun W' S1 (h' : MJ B b n db vb rb wb jp kp S1 S jo jo w W') => h'.cut_r (kc : Int) (by omega))
    rw [← hf5, ← hS5] at hCc hCr
    clear hf5 hS5
    go_upto_region 3 with fail
    refine wp_region_k (fun _ W => DoC B b rb wb ob jp kp CS w W) (fun W => MJ B b n db vb rb wb jp kp (S) (S) jo jo w W) [6, 8, 15, 17] (.op 0 (.op 1 (.op 2 (.op 3 (.op 4 (.op 5 (.op 9 (.op 10 (.op 11 (.op 12 (.op 13 (.op 14 (.op 6 (.op 7 (.op 8 (.op 15 (.op 16 (.op 17 (.op 18 (.op 19 .nil)))))))))))))))))))) (by kernel_rfl) (by kernel_rfl) (by rfl) (by kernel_rfl) (hC1.out.next hM1.out.hB (Below.refl _ _).drew) (hM1.out.next (Below.refl _ _).drew) ?_
    refine k_val (.pointer (some ⟨wb, 0, none⟩)) (by apply opN; repeat' (first | apply OpAt.z | apply OpAt.s)) (by rfl) (by rfl) (fun _ W hS => op_mv rfl rfl) ?_
    simp only [Act.put, List.setIfInBounds_toArray, List.set_cons_zero, List.set_cons_succ]
    refine k_val (.pointer (some ⟨wb, 0, none⟩)) (by apply opN; repeat' (first | apply OpAt.z | apply OpAt.s)) (by rfl) (by rfl) (fun _ W hS => op_nc rfl rfl) ?_
    simp only [Act.put, List.setIfInBounds_toArray, List.set_cons_zero, List.set_cons_succ]
    refine k_val (.pointer (some ⟨wb, 0, none⟩)) (by apply opN; repeat' (first | apply OpAt.z | apply OpAt.s)) (by rfl) (by rfl) (fun _ W hS => op_fa rfl rfl (fa_w (i := 0) (by decide) W)) ?_
    simp only [Act.put, List.setIfInBounds_toArray, List.set_cons_zero, List.set_cons_succ]
    refine k_val (.pointer (some ⟨b, 0, none⟩)) (by apply opN; repeat' (first | apply OpAt.z | apply OpAt.s)) (by rfl) (by rfl) (fun _ W hS => op_ld rfl rfl (ptr_ldd (cellAt hS.row 0))) ?_
    simp only [Act.put, List.setIfInBounds_toArray, List.set_cons_zero, List.set_cons_succ]
    refine k_val (.pointer (some ⟨ob, 2, none⟩)) (by apply opN; repeat' (first | apply OpAt.z | apply OpAt.s)) (by rfl) (by rfl) (fun _ W hS => (op_fa_o2 rfl rfl).trans (by first | rfl | rw [Nat.zero_add])) ?_
    simp only [Act.put, List.setIfInBounds_toArray, List.set_cons_zero, List.set_cons_succ]
    refine k_val (.int .i64 xn) (by apply opN; repeat' (first | apply OpAt.z | apply OpAt.s)) (by rfl) (by rfl) (fun _ W hS => op_ld rfl rfl (ildJ ((cellAt hS.op 2).trans (by rw [hCSH.out]; rfl)))) ?_
    simp only [Act.put, List.setIfInBounds_toArray, List.set_cons_zero, List.set_cons_succ]
    refine k_val (.pointer (some ⟨wb, 0, none⟩)) (by apply opN; repeat' (first | apply OpAt.z | apply OpAt.s)) (by rfl) (by rfl) (fun _ W hS => op_mv rfl rfl) ?_
    simp only [Act.put, List.setIfInBounds_toArray, List.set_cons_zero, List.set_cons_succ]
    refine k_val (.pointer (some ⟨wb, 0, none⟩)) (by apply opN; repeat' (first | apply OpAt.z | apply OpAt.s)) (by rfl) (by rfl) (fun _ W hS => op_nc rfl rfl) ?_
    simp only [Act.put, List.setIfInBounds_toArray, List.set_cons_zero, List.set_cons_succ]
    refine k_val (.pointer (some ⟨wb, 2, none⟩)) (by apply opN; repeat' (first | apply OpAt.z | apply OpAt.s)) (by rfl) (by rfl) (fun _ W hS => op_fa rfl rfl (fa_w (i := 2) (by decide) W)) ?_
    simp only [Act.put, List.setIfInBounds_toArray, List.set_cons_zero, List.set_cons_succ]
    refine k_val (.pointer (some ⟨rb, 0, none⟩)) (by apply opN; repeat' (first | apply OpAt.z | apply OpAt.s)) (by rfl) (by rfl) (fun _ W hS => op_ld rfl rfl (ptr_ldr (cellAt hS.row 2))) ?_
    simp only [Act.put, List.setIfInBounds_toArray, List.set_cons_zero, List.set_cons_succ]
    refine k_val (.pointer (some ⟨ob, 2, none⟩)) (by apply opN; repeat' (first | apply OpAt.z | apply OpAt.s)) (by rfl) (by rfl) (fun _ W hS => (op_fa_o2 rfl rfl).trans (by first | rfl | rw [Nat.zero_add])) ?_
    simp only [Act.put, List.setIfInBounds_toArray, List.set_cons_zero, List.set_cons_succ]
    refine k_val (.int .i64 xn) (by apply opN; repeat' (first | apply OpAt.z | apply OpAt.s)) (by rfl) (by rfl) (fun _ W hS => op_ld rfl rfl (ildJ ((cellAt hS.op 2).trans (by rw [hCSH.out]; rfl)))) ?_
    simp only [Act.put, List.setIfInBounds_toArray, List.set_cons_zero, List.set_cons_succ]
    refine k_step (fun K' u => u = .int .i64 pd ∧ K' = fun W => MJ B b n db vb rb wb jp kp (S) (S) jo jo w W) (by apply opN; repeat' (first | apply OpAt.z | apply OpAt.s)) (by rfl) (by rfl) (by rfl) (fun W hC hK => ?_) ?_
    · refine op_x2 (n := .int .i64 xn) (m := .int .i64 5) rfl rfl rfl rfl cf_pick ?_
      refine (hPk.out W).mono ?_
      rintro e w' ⟨rfl, rfl⟩
      exact ⟨_, rfl, hC, _, hK, rfl, rfl⟩
    rintro _ _ ⟨rfl, rfl⟩
    simp only [Act.put, List.setIfInBounds_toArray, List.set_cons_zero, List.set_cons_succ]
    refine k_val (.int .i64 (kc : Int)) (by apply opN; repeat' (first | apply OpAt.z | apply OpAt.s)) (by rfl) (by rfl) (fun _ W hS => op_addj rfl rfl rfl hkcH.out (by omega)) ?_
    simp only [Act.put, List.setIfInBounds_toArray, List.set_cons_zero, List.set_cons_succ]
    refine k_step (fun K' u => u = .int .i64 f5 ∧ K' = fun W => MJ B b n db vb rb wb jp kp (S5) (S) jo jo w W) (by apply opN; repeat' (first | apply OpAt.z | apply OpAt.s)) (by rfl) (by rfl) (by rfl) (fun W hC hK => ?_) ?_
    · refine op_x2 (n := .pointer (some ⟨b, 0, none⟩)) (m := .int .i64 (kc : Int)) rfl rfl rfl rfl cf_cut ?_
      refine (hCc.out _ _ hK).mono ?_
      rintro e w' ⟨rfl, g1, g2⟩
      exact ⟨_, rfl, hC.of g1 g2, _, g1, rfl, rfl⟩
    rintro _ _ ⟨rfl, rfl⟩
    simp only [Act.put, List.setIfInBounds_toArray, List.set_cons_zero, List.set_cons_succ]
    refine k_step (fun K' u => u = .int .i64 pd ∧ K' = fun W => MJ B b n db vb rb wb jp kp (S5) (S) jo jo w W) (by apply opN; repeat' (first | apply OpAt.z | apply OpAt.s)) (by rfl) (by rfl) (by rfl) (fun W hC hK => ?_) ?_
    · refine op_x2 (n := .int .i64 xn) (m := .int .i64 5) rfl rfl rfl rfl cf_pick ?_
      refine (hPk.out W).mono ?_
      rintro e w' ⟨rfl, rfl⟩
      exact ⟨_, rfl, hC, _, hK, rfl, rfl⟩
    rintro _ _ ⟨rfl, rfl⟩
    simp only [Act.put, List.setIfInBounds_toArray, List.set_cons_zero, List.set_cons_succ]
    refine k_val (.int .i64 (kc : Int)) (by apply opN; repeat' (first | apply OpAt.z | apply OpAt.s)) (by rfl) (by rfl) (fun _ W hS => op_addj rfl rfl rfl hkcH.out (by omega)) ?_
    simp only [Act.put, List.setIfInBounds_toArray, List.set_cons_zero, List.set_cons_succ]
    refine k_step (fun K' u => u = .int .i64 f5 ∧ K' = fun W => MJ B b n db vb rb wb jp kp (S5) (S5) jo jo w W) (by apply opN; repeat' (first | apply OpAt.z | apply OpAt.s)) (by rfl) (by rfl) (by rfl) (fun W hC hK => ?_) ?_
    · refine op_x2 (n := .pointer (some ⟨rb, 0, none⟩)) (m := .int .i64 (kc : Int)) rfl rfl rfl rfl cf_rcut ?_
      refine (hCr.out _ _ hK).mono ?_
      rintro e w' ⟨rfl, g1, g2⟩
      exact ⟨_, rfl, hC.of g1 g2, _, g1, rfl, rfl⟩
    rintro _ _ ⟨rfl, rfl⟩
    simp only [Act.put, List.setIfInBounds_toArray, List.set_cons_zero, List.set_cons_succ]
    refine k_val (.bool true) (by apply opN; repeat' (first | apply OpAt.z | apply OpAt.s)) (by rfl) (by rfl) (fun _ W hS => op_eqE rfl rfl rfl (decide_eq_true rfl)) ?_
    simp only [Act.put, List.setIfInBounds_toArray, List.set_cons_zero, List.set_cons_succ]
    refine k_val (.bool true) (by apply opN; repeat' (first | apply OpAt.z | apply OpAt.s)) (by rfl) (by rfl) (fun _ W hS => op_asg rfl rfl) ?_
    simp only [Act.put, List.setIfInBounds_toArray, List.set_cons_zero, List.set_cons_succ]
    refine k_nil ?_
    intro W' hCW hK
    have hM2 := hide hK
    clear hCW hK hM1 hC1 hCc hCr
    go_wp2
    go_ret
    exact ⟨rfl, jp, kp, S5, jo, hM2.out, hg5.out.mono (by omega), hjoH.out⟩
  · by_cases hp6 : pk = 6
    · subst hp6
      obtain ⟨M, hM⟩ : ∃ M, M = min q 20 := ⟨_, rfl⟩
      have hKp := hide (fun W' (hW : Below B w W') => (show IntR W' (.slice ka M kcap) (xkeep.take 20) from hM ▸ ints_first (hnxH.out W' hW).2.2.2 hqH.out))
      have hqk := hqb.out
      have hMq : M ≤ q := by rw [hM]; exact Nat.min_le_left _ _
      have hMc : M ≤ kcap := Nat.le_trans hMq hqk
      have hmin : min (q : Int) 20 = (M : Int) := by rw [hM]; omega
      have hkl := hide (show (xkeep.take 20).length ≤ 1000000 by rw [List.length_take]; omega)
      clear hM
      have ck3 : w1.cell? ⟨ob, 3, none⟩ = some (.slice ka q kcap) := (cellAt hC1.out.op 3).trans (by rw [hCSH.out]; rfl)
      go_upto_region 6 with fail
      clear ck3 hmin hMc hMq hqk
      obtain ⟨S6, hS6⟩ : ∃ s, s = S.crash (xkeep.take 20) xn := ⟨_, rfl⟩
      have hg6 := hide (hS6 ▸ RW.Rg.crash (n := n) (S := S) (xkeep.take 20) xn p)
      have hCc := hide (fun W' (hW : Below B w W') SR (h' : MJ B b n db vb rb wb jp kp S SR jo jo w W') => h'.crash_c hgH.out.ok xn hkl.out (ints_rowJ (hKp.out W' hW)))
      have hCr := hide (fun W' (hW : Below B w W') S1 (h' : MJ B b n db vb rb wb jp kp S1 S jo jo w W') => h'.crash_r hn1 hgH.out (by omega) xn hbd.out.2.1 hbd.out.2.2 hkl.out (hKp.out W' hW))
      rw [← hS6] at hCc hCr
      clear hS6
      refine wp_region_k (fun _ W => DoC B b rb wb ob jp kp CS w W) (fun W => MJ B b n db vb rb wb jp kp (S) (S) jo jo w W) [7] (.op 0 (.op 1 (.op 2 (.op 3 (.op 4 (.op 5 (.op 6 (.op 7 .nil)))))))) (by kernel_rfl) (by kernel_rfl) (by rfl) (by kernel_rfl) (hC1.out.next hM1.out.hB (Below.refl _ _).drew) (hM1.out.next (Below.refl _ _).drew) ?_
      refine k_val (.pointer (some ⟨wb, 0, none⟩)) (by apply opN; repeat' (first | apply OpAt.z | apply OpAt.s)) (by rfl) (by rfl) (fun _ W hS => op_mv rfl rfl) ?_
      simp only [Act.put, List.setIfInBounds_toArray, List.set_cons_zero, List.set_cons_succ]
      refine k_val (.pointer (some ⟨wb, 0, none⟩)) (by apply opN; repeat' (first | apply OpAt.z | apply OpAt.s)) (by rfl) (by rfl) (fun _ W hS => op_nc rfl rfl) ?_
      simp only [Act.put, List.setIfInBounds_toArray, List.set_cons_zero, List.set_cons_succ]
      refine k_val (.pointer (some ⟨wb, 0, none⟩)) (by apply opN; repeat' (first | apply OpAt.z | apply OpAt.s)) (by rfl) (by rfl) (fun _ W hS => op_fa rfl rfl (fa_w (i := 0) (by decide) W)) ?_
      simp only [Act.put, List.setIfInBounds_toArray, List.set_cons_zero, List.set_cons_succ]
      refine k_val (.pointer (some ⟨b, 0, none⟩)) (by apply opN; repeat' (first | apply OpAt.z | apply OpAt.s)) (by rfl) (by rfl) (fun _ W hS => op_ld rfl rfl (ptr_ldd (cellAt hS.row 0))) ?_
      simp only [Act.put, List.setIfInBounds_toArray, List.set_cons_zero, List.set_cons_succ]
      refine k_val (.slice ka M kcap) (by apply opN; repeat' (first | apply OpAt.z | apply OpAt.s)) (by rfl) (by rfl) (fun _ W hS => op_mv rfl rfl) ?_
      simp only [Act.put, List.setIfInBounds_toArray, List.set_cons_zero, List.set_cons_succ]
      refine k_val (.pointer (some ⟨ob, 2, none⟩)) (by apply opN; repeat' (first | apply OpAt.z | apply OpAt.s)) (by rfl) (by rfl) (fun _ W hS => (op_fa_o2 rfl rfl).trans (by first | rfl | rw [Nat.zero_add])) ?_
      simp only [Act.put, List.setIfInBounds_toArray, List.set_cons_zero, List.set_cons_succ]
      refine k_val (.int .i64 xn) (by apply opN; repeat' (first | apply OpAt.z | apply OpAt.s)) (by rfl) (by rfl) (fun _ W hS => op_ld rfl rfl (ildJ ((cellAt hS.op 2).trans (by rw [hCSH.out]; rfl)))) ?_
      simp only [Act.put, List.setIfInBounds_toArray, List.set_cons_zero, List.set_cons_succ]
      refine k_step (fun K' u => K' = fun W => MJ B b n db vb rb wb jp kp (S6) (S) jo jo w W) (by apply opN; repeat' (first | apply OpAt.z | apply OpAt.s)) (by rfl) (by rfl) (by rfl) (fun W hC hK => ?_) ?_
      · refine op_x3 (a := .pointer (some ⟨b, 0, none⟩)) (b := .slice ka M kcap) (c := .int .i64 xn) rfl rfl rfl rfl rfl cf_crash ?_
        refine (hCc.out _ hC.bel _ hK).mono ?_
        rintro e w' ⟨rfl, g1, g2⟩
        exact ⟨_, rfl, hC.of g1 g2, _, g1, rfl⟩
      rintro _ _ rfl
      simp only [Act.put, List.setIfInBounds_toArray, List.set_cons_zero, List.set_cons_succ]
      refine k_nil ?_
      intro W' hCW hK
      go_upto_region 7 with fail
      refine gen_w (fun W2 => MJ B b n db vb rb wb jp kp S6 S jo jo w W2 ∧ DoC B b rb wb ob jp kp CS w W2) ⟨hK, hCW⟩ ?_
      clear hCW hK hM1 hC1
      rintro w2 ⟨g1, g2⟩
      have hM2 := hide g1
      have hC2 := hide g2
      clear g1 g2
      refine wp_region_k (fun _ W => DoC B b rb wb ob jp kp CS w W) (fun W => MJ B b n db vb rb wb jp kp (S6) (S) jo jo w W) [7] (.op 0 (.op 1 (.op 2 (.op 3 (.op 4 (.op 5 (.op 6 (.op 7 .nil)))))))) (by kernel_rfl) (by kernel_rfl) (by rfl) (by kernel_rfl) (hC2.out.next hM2.out.hB (Below.refl _ _).drew) (hM2.out.next (Below.refl _ _).drew) ?_
      refine k_val (.pointer (some ⟨wb, 0, none⟩)) (by apply opN; repeat' (first | apply OpAt.z | apply OpAt.s)) (by rfl) (by rfl) (fun _ W hS => op_mv rfl rfl) ?_
      simp only [Act.put, List.setIfInBounds_toArray, List.set_cons_zero, List.set_cons_succ]
      refine k_val (.pointer (some ⟨wb, 0, none⟩)) (by apply opN; repeat' (first | apply OpAt.z | apply OpAt.s)) (by rfl) (by rfl) (fun _ W hS => op_nc rfl rfl) ?_
      simp only [Act.put, List.setIfInBounds_toArray, List.set_cons_zero, List.set_cons_succ]
      refine k_val (.pointer (some ⟨wb, 2, none⟩)) (by apply opN; repeat' (first | apply OpAt.z | apply OpAt.s)) (by rfl) (by rfl) (fun _ W hS => op_fa rfl rfl (fa_w (i := 2) (by decide) W)) ?_
      simp only [Act.put, List.setIfInBounds_toArray, List.set_cons_zero, List.set_cons_succ]
      refine k_val (.pointer (some ⟨rb, 0, none⟩)) (by apply opN; repeat' (first | apply OpAt.z | apply OpAt.s)) (by rfl) (by rfl) (fun _ W hS => op_ld rfl rfl (ptr_ldr (cellAt hS.row 2))) ?_
      simp only [Act.put, List.setIfInBounds_toArray, List.set_cons_zero, List.set_cons_succ]
      refine k_val (.slice ka M kcap) (by apply opN; repeat' (first | apply OpAt.z | apply OpAt.s)) (by rfl) (by rfl) (fun _ W hS => op_mv rfl rfl) ?_
      simp only [Act.put, List.setIfInBounds_toArray, List.set_cons_zero, List.set_cons_succ]
      refine k_val (.pointer (some ⟨ob, 2, none⟩)) (by apply opN; repeat' (first | apply OpAt.z | apply OpAt.s)) (by rfl) (by rfl) (fun _ W hS => (op_fa_o2 rfl rfl).trans (by first | rfl | rw [Nat.zero_add])) ?_
      simp only [Act.put, List.setIfInBounds_toArray, List.set_cons_zero, List.set_cons_succ]
      refine k_val (.int .i64 xn) (by apply opN; repeat' (first | apply OpAt.z | apply OpAt.s)) (by rfl) (by rfl) (fun _ W hS => op_ld rfl rfl (ildJ ((cellAt hS.op 2).trans (by rw [hCSH.out]; rfl)))) ?_
      simp only [Act.put, List.setIfInBounds_toArray, List.set_cons_zero, List.set_cons_succ]
      refine k_step (fun K' u => K' = fun W => MJ B b n db vb rb wb jp kp (S6) (S6) jo jo w W) (by apply opN; repeat' (first | apply OpAt.z | apply OpAt.s)) (by rfl) (by rfl) (by rfl) (fun W hC hK => ?_) ?_
      · refine op_x3 (a := .pointer (some ⟨rb, 0, none⟩)) (b := .slice ka M kcap) (c := .int .i64 xn) rfl rfl rfl rfl rfl cf_rcrash ?_
        refine (hCr.out _ hC.bel _ hK).mono ?_
        rintro e w' ⟨⟨v, rfl⟩, g1, g2⟩
        exact ⟨_, rfl, hC.of g1 g2, _, g1, rfl⟩
      rintro _ _ rfl
      simp only [Act.put, List.setIfInBounds_toArray, List.set_cons_zero, List.set_cons_succ]
      refine k_nil ?_
      intro W' hCW hK
      go_upto_region 8 with fail
      refine gen_w (fun W2 => MJ B b n db vb rb wb jp kp S6 S6 jo jo w W2) hK ?_
      clear hCW hK hM2 hC2
      rintro w3 hM3
      have hM3 := hide hM3
      have hOp := hide (wopen_any hks hM3.out hn1 hg6.out (by omega) (a := a) (fun W' hW => ⟨(hnxH.out W' hW).1, (hnxH.out W' hW).2.1⟩))
      have hlv := hide (Rg.lens hM3.out hg6.out)
      go_wp2_with (go_at_call 18; refine hOp.out.mono ?_; rintro e w9 ⟨rfl, ⟨jp9, kp9, h9⟩, _⟩; have hM9 := hide h9; clear h9)
      go_ret
      exact ⟨rfl, jp9, kp9, _, _, hM9.out, hg6.out.open.mono (by omega), JoOk.open hlv.out⟩
    · by_cases hp7 : pk = 7
      · subst hp7
        have hOp := hide (wopen_any hks hM1.out hn1 hgH.out (by omega) (a := a) (fun W' hW => ⟨(hnxH.out W' hW).1, (hnxH.out W' hW).2.1⟩))
        have hlv := hide (Rg.lens hM1.out hgH.out)
        go_wp2_with (go_at_call 18; refine hOp.out.mono ?_; rintro e w9 ⟨rfl, ⟨jp9, kp9, h9⟩, _⟩; have hM9 := hide h9; clear h9)
        go_ret
        exact ⟨rfl, jp9, kp9, _, _, hM9.out, hgH.out.open.mono (by omega), JoOk.open hlv.out⟩
      · have hp567 : True := trivial
        have crow := hide hM1.out.1.row
        have c1 : w1.cell? ⟨wb, 1, none⟩ = some (.pointer jp) := cellAt crow.out 1
        rcases jo with _ | ⟨rs, br⟩
        · obtain rfl : jp = none := hM1.out.2.1
          go_upto_region 12 with fail
          clear c1 crow
          refine wp_region_k (fun _ W => DoC B b rb wb ob (none) (kp) CS w W) (fun W => MJ B b n db vb rb wb none kp S S none none w W) [6, 7] (.op 0 (.op 1 (.op 2 (.op 3 (.op 4 (.op 5 (.op 6 (.op 7 (.op 8 (.op 9 .nil)))))))))) (by kernel_rfl) (by kernel_rfl) (by rfl) (by kernel_rfl) (hC1.out.next hM1.out.hB (Below.refl _ _).drew) (hM1.out.next (Below.refl _ _).drew) ?_
          refine k_val (.pointer (some ⟨wb, 0, none⟩)) (by apply opN; repeat' (first | apply OpAt.z | apply OpAt.s)) (by rfl) (by rfl) (fun _ W hS => op_mv rfl rfl) ?_
          simp only [Act.put, List.setIfInBounds_toArray, List.set_cons_zero, List.set_cons_succ]
          refine k_val (.pointer (some ⟨wb, 0, none⟩)) (by apply opN; repeat' (first | apply OpAt.z | apply OpAt.s)) (by rfl) (by rfl) (fun _ W hS => op_nc rfl rfl) ?_
          simp only [Act.put, List.setIfInBounds_toArray, List.set_cons_zero, List.set_cons_succ]
          refine k_val (.pointer (some ⟨wb, 1, none⟩)) (by apply opN; repeat' (first | apply OpAt.z | apply OpAt.s)) (by rfl) (by rfl) (fun _ W hS => op_fa rfl rfl (fa_w (i := 1) (by decide) W)) ?_
          simp only [Act.put, List.setIfInBounds_toArray, List.set_cons_zero, List.set_cons_succ]
          refine k_val (.pointer none) (by apply opN; repeat' (first | apply OpAt.z | apply OpAt.s)) (by rfl) (by rfl) (fun _ W hS => op_ld rfl rfl (ptr_ldjJ (cellAt hS.row 1))) ?_
          simp only [Act.put, List.setIfInBounds_toArray, List.set_cons_zero, List.set_cons_succ]
          refine k_val (.pointer (some ⟨ob, 1, none⟩)) (by apply opN; repeat' (first | apply OpAt.z | apply OpAt.s)) (by rfl) (by rfl) (fun _ W hS => (op_fa_o1 rfl rfl).trans (by first | rfl | rw [Nat.zero_add])) ?_
          simp only [Act.put, List.setIfInBounds_toArray, List.set_cons_zero, List.set_cons_succ]
          refine k_val (.slice pa pn pc) (by apply opN; repeat' (first | apply OpAt.z | apply OpAt.s)) (by rfl) (by rfl) (fun _ W hS => op_ld rfl rfl (sl_ld ((cellAt hS.op 1).trans (by rw [hCSH.out]; rfl)))) ?_
          simp only [Act.put, List.setIfInBounds_toArray, List.set_cons_zero, List.set_cons_succ]
          refine k_step (fun K' u => ∃ Mx, K' = fun W => (MJ B b n db vb rb wb none kp S S none none w W) ∧ StrsOwn W Mx u L) (by apply opN; repeat' (first | apply OpAt.z | apply OpAt.s)) (by rfl) (by rfl) (by rfl) (fun W hC hK => ?_) ?_
          · refine op_x1 (n := .slice pa pn pc) rfl rfl rfl cf_few ?_
            refine (hFw.out W hC.bel).mono ?_
            rintro e w' ⟨u, rfl, h3, h4⟩
            exact ⟨u, rfl, hC.next hK.hB h4, _, ⟨hK.next h4, h3⟩, _, rfl⟩
          rintro _ u6 ⟨Mx, rfl⟩
          simp only [Act.put, List.setIfInBounds_toArray, List.set_cons_zero, List.set_cons_succ]
          refine k_step (fun K' u => u = .int .i64 1 ∧ K' = fun W => MJ B b n db vb rb wb none kp S S none none w W) (by apply opN; repeat' (first | apply OpAt.z | apply OpAt.s)) (by rfl) (by rfl) (by rfl) (fun W hC hK => ?_) ?_
          · refine op_x2 (n := .pointer none) (m := u6) rfl rfl rfl rfl cf_append ?_
            refine (Append_nil u6 W).mono ?_
            rintro e w' ⟨rfl, rfl⟩
            exact ⟨_, rfl, hC, _, hK.1, rfl, rfl⟩
          rintro _ _ ⟨rfl, rfl⟩
          simp only [Act.put, List.setIfInBounds_toArray, List.set_cons_zero, List.set_cons_succ]
          refine k_val (.bool true) (by apply opN; repeat' (first | apply OpAt.z | apply OpAt.s)) (by rfl) (by rfl) (fun _ W hS => op_eqE rfl rfl rfl (decide_eq_true rfl)) ?_
          simp only [Act.put, List.setIfInBounds_toArray, List.set_cons_zero, List.set_cons_succ]
          refine k_val (.bool true) (by apply opN; repeat' (first | apply OpAt.z | apply OpAt.s)) (by rfl) (by rfl) (fun _ W hS => op_asg rfl rfl) ?_
          simp only [Act.put, List.setIfInBounds_toArray, List.set_cons_zero, List.set_cons_succ]
          refine k_nil ?_
          intro W' hCW hK
          have hM2 := hide hK
          clear hCW hK hM1 hC1
          go_wp2
          go_ret
          exact ⟨rfl, none, kp, S, none, hM2.out, hgH.out.mono (by omega), hjoH.out⟩
        · obtain ⟨jb, rv, rfl, _⟩ := hM1.out.2.1
          obtain ⟨kb, lv, rfl, _⟩ := hM1.out.2.2
          obtain ⟨hfit, hlims⟩ := hjoH.out rs br rfl
          have hfit := hide hfit
          have hlims := hide hlims
          obtain ⟨f6, hf6⟩ : ∃ f, f = (RW.japp HH n S rs br L).1 := ⟨_, rfl⟩
          obtain ⟨S6, hS6⟩ : ∃ f, f = (RW.japp HH n S rs br L).2.2.2 := ⟨_, rfl⟩
          obtain ⟨j6, hj6⟩ : ∃ f, f = some ((RW.japp HH n S rs br L).2.1, (RW.japp HH n S rs br L).2.2.1) := ⟨_, rfl⟩
          have hg6 := hide (hS6 ▸ hgH.out.app (H := HH) rs br L)
          have hjo6 := hide (hj6 ▸ hjoH.out.app (S := S) (l := L) hLs.out)
          have hAc := hide (fun W' (hW : Below B w W') v (h' : MJ B b n db vb rb wb (some ⟨jb, 0, none⟩) (some ⟨kb, 0, none⟩) S S (some (rs, br)) (some (rs, br)) w W') (hv : StrR W' v L) => h'.append_c hks (by have := hgH.out.pl; omega) hfit.out hv (by have := hLl.out; omega) (hnxH.out W' hW).1)
          have hAr := hide (fun W' v M (h' : MJ B b n db vb rb wb (some ⟨jb, 0, none⟩) (some ⟨kb, 0, none⟩) S6 S j6 (some (rs, br)) w W') (hv : StrsOwn W' M v L) => h'.append_r hn1 hgH.out (by omega) hfit.out hlims.out hv (by have := hLl.out; omega) hLs.out)
          rw [← hf6, ← hS6, ← hj6] at hAc
          rw [← hf6, ← hS6, ← hj6] at hAr
          clear hf6 hS6 hj6
          go_upto_region 13 with fail
          clear c1 crow
          refine wp_region_k (fun _ W => DoC B b rb wb ob ((some ⟨jb, 0, none⟩)) ((some ⟨kb, 0, none⟩)) CS w W) (fun W => MJ B b n db vb rb wb (some ⟨jb, 0, none⟩) (some ⟨kb, 0, none⟩) S S (some (rs, br)) (some (rs, br)) w W) [6, 7, 14, 15] (.op 0 (.op 1 (.op 2 (.op 3 (.op 4 (.op 5 (.op 8 (.op 9 (.op 10 (.op 11 (.op 12 (.op 13 (.op 6 (.op 7 (.op 14 (.op 15 (.op 16 (.op 17 .nil)))))))))))))))))) (by kernel_rfl) (by kernel_rfl) (by rfl) (by kernel_rfl) (hC1.out.next hM1.out.hB (Below.refl _ _).drew) (hM1.out.next (Below.refl _ _).drew) ?_
          refine k_val (.pointer (some ⟨wb, 0, none⟩)) (by apply opN; repeat' (first | apply OpAt.z | apply OpAt.s)) (by rfl) (by rfl) (fun _ W hS => op_mv rfl rfl) ?_
          simp only [Act.put, List.setIfInBounds_toArray, List.set_cons_zero, List.set_cons_succ]
          refine k_val (.pointer (some ⟨wb, 0, none⟩)) (by apply opN; repeat' (first | apply OpAt.z | apply OpAt.s)) (by rfl) (by rfl) (fun _ W hS => op_nc rfl rfl) ?_
          simp only [Act.put, List.setIfInBounds_toArray, List.set_cons_zero, List.set_cons_succ]
          refine k_val (.pointer (some ⟨wb, 1, none⟩)) (by apply opN; repeat' (first | apply OpAt.z | apply OpAt.s)) (by rfl) (by rfl) (fun _ W hS => op_fa rfl rfl (fa_w (i := 1) (by decide) W)) ?_
          simp only [Act.put, List.setIfInBounds_toArray, List.set_cons_zero, List.set_cons_succ]
          refine k_val (.pointer (some ⟨jb, 0, none⟩)) (by apply opN; repeat' (first | apply OpAt.z | apply OpAt.s)) (by rfl) (by rfl) (fun _ W hS => op_ld rfl rfl (ptr_ldjJ (cellAt hS.row 1))) ?_
          simp only [Act.put, List.setIfInBounds_toArray, List.set_cons_zero, List.set_cons_succ]
          refine k_val (.pointer (some ⟨ob, 1, none⟩)) (by apply opN; repeat' (first | apply OpAt.z | apply OpAt.s)) (by rfl) (by rfl) (fun _ W hS => (op_fa_o1 rfl rfl).trans (by first | rfl | rw [Nat.zero_add])) ?_
          simp only [Act.put, List.setIfInBounds_toArray, List.set_cons_zero, List.set_cons_succ]
          refine k_val (.slice pa pn pc) (by apply opN; repeat' (first | apply OpAt.z | apply OpAt.s)) (by rfl) (by rfl) (fun _ W hS => op_ld rfl rfl (sl_ld ((cellAt hS.op 1).trans (by rw [hCSH.out]; rfl)))) ?_
          simp only [Act.put, List.setIfInBounds_toArray, List.set_cons_zero, List.set_cons_succ]
          refine k_val (.pointer (some ⟨wb, 0, none⟩)) (by apply opN; repeat' (first | apply OpAt.z | apply OpAt.s)) (by rfl) (by rfl) (fun _ W hS => op_mv rfl rfl) ?_
          simp only [Act.put, List.setIfInBounds_toArray, List.set_cons_zero, List.set_cons_succ]
          refine k_val (.pointer (some ⟨wb, 0, none⟩)) (by apply opN; repeat' (first | apply OpAt.z | apply OpAt.s)) (by rfl) (by rfl) (fun _ W hS => op_nc rfl rfl) ?_
          simp only [Act.put, List.setIfInBounds_toArray, List.set_cons_zero, List.set_cons_succ]
          refine k_val (.pointer (some ⟨wb, 3, none⟩)) (by apply opN; repeat' (first | apply OpAt.z | apply OpAt.s)) (by rfl) (by rfl) (fun _ W hS => op_fa rfl rfl (fa_w (i := 3) (by decide) W)) ?_
          simp only [Act.put, List.setIfInBounds_toArray, List.set_cons_zero, List.set_cons_succ]
          refine k_val (.pointer (some ⟨kb, 0, none⟩)) (by apply opN; repeat' (first | apply OpAt.z | apply OpAt.s)) (by rfl) (by rfl) (fun _ W hS => op_ld rfl rfl (ptr_ldk (cellAt hS.row 3))) ?_
          simp only [Act.put, List.setIfInBounds_toArray, List.set_cons_zero, List.set_cons_succ]
          refine k_val (.pointer (some ⟨ob, 1, none⟩)) (by apply opN; repeat' (first | apply OpAt.z | apply OpAt.s)) (by rfl) (by rfl) (fun _ W hS => (op_fa_o1 rfl rfl).trans (by first | rfl | rw [Nat.zero_add])) ?_
          simp only [Act.put, List.setIfInBounds_toArray, List.set_cons_zero, List.set_cons_succ]
          refine k_val (.slice pa pn pc) (by apply opN; repeat' (first | apply OpAt.z | apply OpAt.s)) (by rfl) (by rfl) (fun _ W hS => op_ld rfl rfl (sl_ld ((cellAt hS.op 1).trans (by rw [hCSH.out]; rfl)))) ?_
          simp only [Act.put, List.setIfInBounds_toArray, List.set_cons_zero, List.set_cons_succ]
          refine k_step (fun K' u => ∃ Mx, K' = fun W => (MJ B b n db vb rb wb (some ⟨jb, 0, none⟩) (some ⟨kb, 0, none⟩) S S (some (rs, br)) (some (rs, br)) w W) ∧ StrsOwn W Mx u L) (by apply opN; repeat' (first | apply OpAt.z | apply OpAt.s)) (by rfl) (by rfl) (by rfl) (fun W hC hK => ?_) ?_
          · refine op_x1 (n := .slice pa pn pc) rfl rfl rfl cf_few ?_
            refine (hFw.out W hC.bel).mono ?_
            rintro e w' ⟨u, rfl, h3, h4⟩
            exact ⟨u, rfl, hC.next hK.hB h4, _, ⟨hK.next h4, h3⟩, _, rfl⟩
          rintro _ u6 ⟨Mx, rfl⟩
          simp only [Act.put, List.setIfInBounds_toArray, List.set_cons_zero, List.set_cons_succ]
          refine k_step (fun K' u => u = .int .i64 f6 ∧ K' = fun W => MJ B b n db vb rb wb (some ⟨jb, 0, none⟩) (some ⟨kb, 0, none⟩) S6 S j6 (some (rs, br)) w W) (by apply opN; repeat' (first | apply OpAt.z | apply OpAt.s)) (by rfl) (by rfl) (by rfl) (fun W hC hK => ?_) ?_
          · refine op_x2 (n := .pointer (some ⟨jb, 0, none⟩)) (m := u6) rfl rfl rfl rfl cf_append ?_
            refine (hAc.out W hC.bel _ hK.1 (strs_own hK.2)).mono ?_
            rintro e w' ⟨rfl, g1, g2⟩
            exact ⟨_, rfl, hC.of g1 g2, _, g1, rfl, rfl⟩
          rintro _ _ ⟨rfl, rfl⟩
          simp only [Act.put, List.setIfInBounds_toArray, List.set_cons_zero, List.set_cons_succ]
          refine k_step (fun K' u => ∃ Mx, K' = fun W => (MJ B b n db vb rb wb (some ⟨jb, 0, none⟩) (some ⟨kb, 0, none⟩) S6 S j6 (some (rs, br)) w W) ∧ StrsOwn W Mx u L) (by apply opN; repeat' (first | apply OpAt.z | apply OpAt.s)) (by rfl) (by rfl) (by rfl) (fun W hC hK => ?_) ?_
          · refine op_x1 (n := .slice pa pn pc) rfl rfl rfl cf_few ?_
            refine (hFw.out W hC.bel).mono ?_
            rintro e w' ⟨u, rfl, h3, h4⟩
            exact ⟨u, rfl, hC.next hK.hB h4, _, ⟨hK.next h4, h3⟩, _, rfl⟩
          rintro _ u7 ⟨My, rfl⟩
          simp only [Act.put, List.setIfInBounds_toArray, List.set_cons_zero, List.set_cons_succ]
          refine k_step (fun K' u => u = .int .i64 f6 ∧ K' = fun W => MJ B b n db vb rb wb (some ⟨jb, 0, none⟩) (some ⟨kb, 0, none⟩) S6 S6 j6 j6 w W) (by apply opN; repeat' (first | apply OpAt.z | apply OpAt.s)) (by rfl) (by rfl) (by rfl) (fun W hC hK => ?_) ?_
          · refine op_x2 (n := .pointer (some ⟨kb, 0, none⟩)) (m := u7) rfl rfl rfl rfl cf_rappend ?_
            refine (hAr.out W _ _ hK.1 hK.2).mono ?_
            rintro e w' ⟨rfl, g1, g2⟩
            exact ⟨_, rfl, hC.of g1 g2, _, g1, rfl, rfl⟩
          rintro _ _ ⟨rfl, rfl⟩
          simp only [Act.put, List.setIfInBounds_toArray, List.set_cons_zero, List.set_cons_succ]
          refine k_val (.bool true) (by apply opN; repeat' (first | apply OpAt.z | apply OpAt.s)) (by rfl) (by rfl) (fun _ W hS => op_eqE rfl rfl rfl (decide_eq_true rfl)) ?_
          simp only [Act.put, List.setIfInBounds_toArray, List.set_cons_zero, List.set_cons_succ]
          refine k_val (.bool true) (by apply opN; repeat' (first | apply OpAt.z | apply OpAt.s)) (by rfl) (by rfl) (fun _ W hS => op_asg rfl rfl) ?_
          simp only [Act.put, List.setIfInBounds_toArray, List.set_cons_zero, List.set_cons_succ]
          refine k_nil ?_
          intro W' hCW hK
          have hM2 := hide hK
          clear hCW hK hM1 hC1 hAc hAr
          go_wp2
          go_ret
          exact ⟨rfl, _, _, S6, j6, hM2.out, hg6.out.mono (by omega), hjo6.out⟩
end Go.Proofs.YtllbphanfahkkaaGreatDoor

/-
  Package disk: New, Size, Pending, Cut, Sync, Read: what they return, what they change.
-/
import Derived.Test.YtllbphanfahkkaaGreatDoorDk4
namespace Go.Proofs.YtllbphanfahkkaaGreatDoor
open Go.RowKit RG
theorem size_nil (w : World) : Calls Tryz.prog 56 #[.pointer none] w fun e w' => e = .returned (.int .i64 0) ∧ w = w' := by
  go_enter Tryz.func56, Tryz.ntmps56
  go_wp2
  go_ret
  exact ⟨rfl, rfl⟩
theorem pending_nil (w : World) : Calls Tryz.prog 33 #[.pointer none] w fun e w' => e = .returned (.int .i64 0) ∧ w = w' := by
  go_enter Tryz.func33, Tryz.ntmps33
  go_wp2
  go_ret
  exact ⟨rfl, rfl⟩
section
variable {B b n db vb : Nat} {pv : Value} {S : RW.Dk}
theorem size_any (w : World) (h : DiskAt w B b n db vb pv S) : Calls Tryz.prog 56 #[.pointer (some ⟨b, 0, none⟩)] w fun e w' => e = .returned (.int .i64 (n : Int)) ∧ w = w' := by
  have c2 : w.cell? ⟨b, 2, none⟩ = some (.slice (some ⟨db, 0, none⟩) n n) := cellAt h.row 2
  clear h
  go_enter Tryz.func56, Tryz.ntmps56
  go_wp2
  go_ret
  exact ⟨rfl, rfl⟩
theorem DiskAt.form {W : World} (h : DiskAt W B b n db vb pv S) : ∃ a c, pv = .slice a S.pend.length c := by
  rcases h.pend.2 with ⟨rfl, h0⟩ | ⟨g, cap, cur, rfl, _⟩
  · exact ⟨none, 0, by rw [h0]⟩
  · exact ⟨_, _, rfl⟩
theorem pending_any (w : World) (h : DiskAt w B b n db vb pv S) : Calls Tryz.prog 33 #[.pointer (some ⟨b, 0, none⟩)] w fun e w' => e = .returned (.int .i64 (S.pend.length : Int)) ∧ w = w' := by
  obtain ⟨a, c, rfl⟩ := h.form
  have c4 : w.cell? ⟨b, 4, none⟩ = some (.slice a S.pend.length c) := cellAt h.row 4
  obtain ⟨k, hk⟩ : ∃ k, k = S.pend.length := ⟨_, rfl⟩
  rw [← hk] at c4 ⊢
  clear h hk
  go_enter Tryz.func33, Tryz.ntmps33
  go_wp2
  go_ret
  exact ⟨rfl, rfl⟩
end
theorem ChgS.tch {W W' : World} {B b n db vb : Nat} {pv : Value} {S : RW.Dk} {Q : Nat → Prop} (h : DiskAt W B b n db vb pv S) (hc : ChgS Q W W') (hQ : ∀ j, Q j → j = b ∨ j = db ∨ j = vb ∨ pv.ownBlock = some j) : Tch b db vb W W' ∧ Below B W W' := by
  have hown : ∀ j, pv.ownBlock = some j → B ≤ j ∧ ∃ cur fr, W.heap[j]? = some (.cells cur 103 fr) := fun j hj => by
    rcases h.pend.2 with ⟨rfl, _⟩ | ⟨g, cap, cur, rfl, h2, h3, _⟩
    · cases hj
    · cases hj
      exact ⟨h2, cur, _, h3⟩
  refine ⟨⟨hc.os, hc.tape, hc.output, hc.size, fun k hk h1 h2 h3 h4 => hc.block k hk fun hq => ?_⟩, ⟨hc.os, hc.tape, hc.output, hc.size, fun k hk => hc.block k (Nat.lt_trans (Nat.lt_of_lt_of_le hk h.hb) h.lt.1) fun hq => ?_⟩⟩
  · rcases hQ k hq with e | e | e | e
    · exact h1 e
    · exact h2 e
    · exact h3 e
    · obtain ⟨_, cur, fr, hh⟩ := hown k e
      exact h4 cur fr hh
  · have h1 := h.hb
    have h2 := h.hd
    have h3 := h.hv
    rcases hQ k hq with e | e | e | e
    · omega
    · omega
    · omega
    · have := (hown k e).1
      omega
theorem DiskAt.settled_d {W W' : World} {B b n db vb : Nat} {pv pv' : Value} {S : RW.Dk} (h : DiskAt W B b n db vb pv S)
    (g1 : W'.heap[b]? = some (.cells (RW.dkl S.off (S.left : Int) (.slice (some ⟨db, 0, none⟩) n n) (.slice (some ⟨vb, 0, none⟩) n n) pv') 108 (0, 0))) (g2 : W'.ownsRow B 103 2 pv' 0 [])
    (g3 : W'.heap[db]? = some (.cells (RW.byl S.vis).toArray 5 (0, 0))) (g5 : ChgS (fun j => j = b ∨ j = db ∨ pv.ownBlock = some j) W W') :
    DiskAt W' B b n db vb pv' ⟨S.off, S.left, S.vis, S.vis, []⟩ ∧ Tch b db vb W W' ∧ Below B W W' := by
  obtain ⟨ha1, ha2, ha3⟩ := h.apart
  refine ⟨⟨g1, g3, (g5.block vb h.lt.2.2 ?_).trans h.vis, g2, h.hb, h.hd, h.hv, h.ne, h.lv, h.lv, h.hn, h.lf⟩, ChgS.tch h g5 fun j hj => ?_⟩
  · rintro (e | e | e)
    · exact ha2 e.symm
    · exact h.ne e.symm
    · exact (ha3 _ e).2.2 rfl
  · rcases hj with e | e | e
    · exact .inl e
    · exact .inr (.inl e)
    · exact .inr (.inr (.inr e))
theorem DiskAt.settled_v {W W' : World} {B b n db vb : Nat} {pv pv' : Value} {S : RW.Dk} (h : DiskAt W B b n db vb pv S)
    (g1 : W'.heap[b]? = some (.cells (RW.dkl S.off (S.left : Int) (.slice (some ⟨db, 0, none⟩) n n) (.slice (some ⟨vb, 0, none⟩) n n) pv') 108 (0, 0))) (g2 : W'.ownsRow B 103 2 pv' 0 [])
    (g3 : W'.heap[vb]? = some (.cells (RW.byl S.dur).toArray 5 (0, 0))) (g5 : ChgS (fun j => j = b ∨ j = vb ∨ pv.ownBlock = some j) W W') :
    DiskAt W' B b n db vb pv' ⟨S.off, S.left, S.dur, S.dur, []⟩ ∧ Tch b db vb W W' ∧ Below B W W' := by
  obtain ⟨ha1, ha2, ha3⟩ := h.apart
  refine ⟨⟨g1, (g5.block db h.lt.2.1 ?_).trans h.dur, g3, g2, h.hb, h.hd, h.hv, h.ne, h.ld, h.ld, h.hn, h.lf⟩, ChgS.tch h g5 fun j hj => ?_⟩
  · rintro (e | e | e)
    · exact ha1 e.symm
    · exact h.ne e
    · exact (ha3 _ e).2.1 rfl
  · rcases hj with e | e | e
    · exact .inl e
    · exact .inr (.inr (.inl e))
    · exact .inr (.inr (.inr e))
theorem ldSt_power (x y : Value) : Instr.storeAt 106 x y = stRow 106 x y := rfl
attribute [local go_sem ↓] ldSt_power
theorem cut_nil (k : Int) (w : World) : Calls Tryz.prog 30 #[.pointer none, .int .i64 k] w fun e w' => e = .returned (.int .i64 1) ∧ w = w' := by
  have hC := hide (check_nil w)
  go_enter Tryz.func30, Tryz.ntmps30
  go_wp2_with (go_at_call 51; refine hC.out.mono ?_; rintro e w' ⟨rfl, rfl⟩)
  go_ret
  exact ⟨rfl, rfl⟩
theorem sync_nil (w : World) : Calls Tryz.prog 47 #[.pointer none] w fun e w' => e = .returned (.int .i64 1) ∧ w = w' := by
  have hC := hide (check_nil w)
  go_enter Tryz.func47, Tryz.ntmps47
  go_wp2_with (go_at_call 51; refine hC.out.mono ?_; rintro e w' ⟨rfl, rfl⟩)
  go_ret
  exact ⟨rfl, rfl⟩
theorem read_nil (o k : Int) (w : World) : Calls Tryz.prog 57 #[.pointer none, .int .i64 o, .int .i64 k] w fun e w' => e = .returned (.tuple #[.string ⟨#[]⟩, .int .i64 1]) ∧ w = w' := by
  have hC := hide (check_nil w)
  go_enter Tryz.func57, Tryz.ntmps57
  go_wp2_with (go_at_call 51; refine hC.out.mono ?_; rintro e w' ⟨rfl, rfl⟩)
  exact bodyPost_ret (results_tmp2 rfl _ _ _) rfl ⟨rfl, rfl⟩
theorem write_nil (o : Int) (s : ByteArray) (w : World) : Calls Tryz.prog 14 #[.pointer none, .int .i64 o, .string s] w fun e w' => e = .returned (.int .i64 1) ∧ w = w' := by
  have hC := hide (check_nil w)
  go_enter Tryz.func14, Tryz.ntmps14
  go_wp2_with (go_at_call 51; refine hC.out.mono ?_; rintro e w' ⟨rfl, rfl⟩)
  go_ret
  exact ⟨rfl, rfl⟩
set_option maxRecDepth 10000 in
set_option maxHeartbeats 1000000 in
theorem cut_any (B b n db vb : Nat) (pv : Value) (S : RW.Dk) (k : Int) (hk : k ≤ 9223372036854775807) (w : World) (h : DiskAt w B b n db vb pv S) :
    Calls Tryz.prog 30 #[.pointer (some ⟨b, 0, none⟩), .int .i64 k] w fun e w' => e = .returned (.int .i64 (S.cut k).1) ∧ DiskAt w' B b n db vb pv (S.cut k).2 ∧ Tch b db vb w w' ∧ Below B w w' := by
  have hC := hide (check_any b S.off S.left _ _ pv w h.row)
  have hH := hide h
  obtain ⟨r, hr⟩ : ∃ r, r = S.cut k := ⟨_, rfl⟩
  rw [← hr]
  rw [RW.Dk.cut] at hr
  cases hoff : S.off
  · rw [hoff, if_neg Bool.false_ne_true] at hr
    rw [hoff] at hC
    by_cases hk0 : k < 0
    · rw [if_pos hk0] at hr
      have hrH := hide hr
      clear hr h hoff
      go_enter Tryz.func30, Tryz.ntmps30
      go_wp2_with (go_at_call 51; refine hC.out.mono ?_; rintro e w' ⟨rfl, rfl⟩)
      go_ret
      exact ⟨by rw [hrH.out]; rfl, by rw [hrH.out]; exact hH.out, Tch.refl _ _ _ _, Below.refl _ _⟩
    · rw [if_neg hk0] at hr
      have hrH := hide hr
      have hoffH := hide hoff
      obtain ⟨k0, hk0e⟩ : ∃ b : Bool, b = (k == 0) := ⟨_, rfl⟩
      have hst : (stRow 106 (.pointer (some ⟨b, 0, none⟩)) (.agg #[.bool (k == 0), .int .i64 k])).run Tryz.prog w = .ok () (w.setCells b 0 [.bool (k == 0), .int .i64 k]) :=
        stRow_mid (cells := #[.bool (k == 0), .int .i64 k]) (fun j hj => by
          have hj2 : j < 2 := hj
          rw [Nat.zero_add]
          refine ⟨?_, by simp [World.frozen?, h.row]⟩
          rw [cellAt h.row]
          rcases j with _ | _ | j
          · rfl
          · rfl
          · omega) (by kernel_rfl) (by simp; exact ⟨rfl, rfl⟩)
      clear hr h hoff hk0e
      go_enter Tryz.func30, Tryz.ntmps30
      go_wp2_with (go_at_call 51; refine hC.out.mono ?_; rintro e w' ⟨rfl, rfl⟩)
      go_ret
      have hg := hH.out
      have hrow := setCells_heap [.bool (k == 0), .int .i64 k] w b 0 _ _ _ hg.row
      have hgr := setCells_grown [.bool (k == 0), .int .i64 k] w b 0
      obtain ⟨ha1, ha2, ha3⟩ := hg.apart
      have hoth : ∀ j, j < w.heap.size → j ≠ b → (w.setCells b 0 [.bool (k == 0), .int .i64 k]).heap[j]? = w.heap[j]? := fun j hj hne => hgr.block j hj fun e => hne (Option.some.inj e)
      obtain ⟨l1, l2, l3⟩ := hg.lt
      refine ⟨by rw [hrH.out]; rfl, ?_, ⟨hgr.os, hgr.tape, hgr.output, hgr.size, fun j hj h1 _ _ _ => hoth j hj h1⟩, ⟨hgr.os, hgr.tape, hgr.output, hgr.size, fun j hj => hoth j (by have := hg.hb; omega) (by have := hg.hb; omega)⟩⟩
      rw [hrH.out]
      have hkb : (k == 0) = decide (k = 0) := by
        by_cases h : k = 0
        · subst h; rfl
        · rw [decide_eq_false h, beq_eq_false_iff_ne]; exact h
      have hkn : ((k.toNat : Nat) : Int) = k := Int.toNat_of_nonneg (by omega)
      refine ⟨?_, (hoth db l2 (Ne.symm ha1)).trans hg.dur, (hoth vb l3 (Ne.symm ha2)).trans hg.vis, own_keep hg.pend fun g hgb => hoth g (hg.pend.lt g hgb).2 (ha3 g hgb).1, hg.hb, hg.hd, hg.hv, hg.ne, hg.ld, hg.lv, hg.hn, ?_⟩
      · refine hrow.trans ?_
        show _ = some (Obj.cells (RW.dkl (decide (k = 0)) (k.toNat : Int) _ _ pv) _ _)
        rw [hkn, ← hkb]
        rfl
      · show ((k.toNat : Nat) : Int) ≤ _
        rw [hkn]; exact hk
  · rw [hoff, if_pos rfl] at hr
    rw [hoff] at hC
    have hrH := hide hr
    clear hr h hoff
    go_enter Tryz.func30, Tryz.ntmps30
    go_wp2_with (go_at_call 51; refine hC.out.mono ?_; rintro e w' ⟨rfl, rfl⟩)
    go_ret
    exact ⟨by rw [hrH.out]; rfl, by rw [hrH.out]; exact hH.out, Tch.refl _ _ _ _, Below.refl _ _⟩
set_option maxRecDepth 10000 in
set_option maxHeartbeats 1000000 in
theorem sync_any (B b n db vb : Nat) (pv : Value) (S : RW.Dk) (w : World) (h : DiskAt w B b n db vb pv S) :
    Calls Tryz.prog 47 #[.pointer (some ⟨b, 0, none⟩)] w fun e w' => e = .returned (.int .i64 S.sync.1) ∧ ∃ pv', DiskAt w' B b n db vb pv' S.sync.2 ∧ Tch b db vb w w' ∧ Below B w w' := by
  have hC := hide (check_any b S.off S.left _ _ pv w h.row)
  have hH := hide h
  obtain ⟨r, hr⟩ : ∃ r, r = S.sync := ⟨_, rfl⟩
  rw [← hr]
  rw [RW.Dk.sync] at hr
  cases hoff : S.off
  · rw [hoff, if_neg Bool.false_ne_true] at hr
    rw [hoff] at hC
    have hrH := hide hr
    have hoffH := hide hoff
    have hSt := hide (fun W (h : DiskAt W B b n db vb pv S) => settle_any b vb db n S.off S.left _ _ pv S.vis S.dur S.pend B W h.row h.vis h.dur h.lv h.ld h.pend (Ne.symm h.ne))
    clear hr h hoff
    go_enter Tryz.func47, Tryz.ntmps47
    go_upto_region 3 with (go_at_call 51; refine hC.out.mono ?_; rintro e w' ⟨rfl, rfl⟩)
    refine wp_region_k (fun g W => 9 ∉ g → W.heap[b]? = some (.cells (RW.dkl S.off (S.left : Int) (.slice (some ⟨db, 0, none⟩) n n) (.slice (some ⟨vb, 0, none⟩) n n) pv) 108 (0, 0))) (fun W => DiskAt W B b n db vb pv S ∧ Below w.heap.size w W) [9] (.op 0 (.op 1 (.op 2 (.op 3 (.op 4 (.op 5 (.op 6 (.op 7 (.op 8 (.op 9 .nil)))))))))) (by kernel_rfl) (by kernel_rfl) (by rfl) (by kernel_rfl) (fun _ => hH.out.row) ⟨hH.out.next (Below.refl _ _).drew, (Below.refl _ _).drew⟩ ?_
    refine k_val (.pointer (some ⟨b, 0, none⟩)) (by apply opN; repeat' (first | apply OpAt.z | apply OpAt.s)) (by rfl) (by rfl) (fun _ W hS => op_mv rfl rfl) ?_
    simp only [Act.put, List.setIfInBounds_toArray, List.set_cons_zero, List.set_cons_succ]
    refine k_val (.pointer (some ⟨b, 0, none⟩)) (by apply opN; repeat' (first | apply OpAt.z | apply OpAt.s)) (by rfl) (by rfl) (fun _ W hS => op_mv rfl rfl) ?_
    simp only [Act.put, List.setIfInBounds_toArray, List.set_cons_zero, List.set_cons_succ]
    refine k_val (.pointer (some ⟨b, 0, none⟩)) (by apply opN; repeat' (first | apply OpAt.z | apply OpAt.s)) (by rfl) (by rfl) (fun _ W hS => op_nc rfl rfl) ?_
    simp only [Act.put, List.setIfInBounds_toArray, List.set_cons_zero, List.set_cons_succ]
    refine k_val (.pointer (some ⟨b, 3, none⟩)) (by apply opN; repeat' (first | apply OpAt.z | apply OpAt.s)) (by rfl) (by rfl) (fun _ W hS => op_fa_d (i := 2) (by decide) rfl rfl rfl) ?_
    simp only [Act.put, List.setIfInBounds_toArray, List.set_cons_zero, List.set_cons_succ]
    refine k_bef 9 (.slice (some ⟨vb, 0, none⟩) n n) (by apply opN; repeat' (first | apply OpAt.z | apply OpAt.s)) (by rfl) (by rfl) (by decide +kernel) (by rfl) (fun g W hg hS => op_load_by rfl rfl (cellAt (hS hg) 3)) ?_
    simp only [Act.put, List.setIfInBounds_toArray, List.set_cons_zero, List.set_cons_succ]
    refine k_val (.pointer (some ⟨b, 0, none⟩)) (by apply opN; repeat' (first | apply OpAt.z | apply OpAt.s)) (by rfl) (by rfl) (fun _ W hS => op_mv rfl rfl) ?_
    simp only [Act.put, List.setIfInBounds_toArray, List.set_cons_zero, List.set_cons_succ]
    refine k_val (.pointer (some ⟨b, 0, none⟩)) (by apply opN; repeat' (first | apply OpAt.z | apply OpAt.s)) (by rfl) (by rfl) (fun _ W hS => op_nc rfl rfl) ?_
    simp only [Act.put, List.setIfInBounds_toArray, List.set_cons_zero, List.set_cons_succ]
    refine k_val (.pointer (some ⟨b, 2, none⟩)) (by apply opN; repeat' (first | apply OpAt.z | apply OpAt.s)) (by rfl) (by rfl) (fun _ W hS => op_fa_d (i := 1) (by decide) rfl rfl rfl) ?_
    simp only [Act.put, List.setIfInBounds_toArray, List.set_cons_zero, List.set_cons_succ]
    refine k_bef 9 (.slice (some ⟨db, 0, none⟩) n n) (by apply opN; repeat' (first | apply OpAt.z | apply OpAt.s)) (by rfl) (by rfl) (by decide +kernel) (by rfl) (fun g W hg hS => op_load_by rfl rfl (cellAt (hS hg) 2)) ?_
    simp only [Act.put, List.setIfInBounds_toArray, List.set_cons_zero, List.set_cons_succ]
    refine k_step (fun K' u => K' = fun W => ∃ pv', DiskAt W B b n db vb pv' ⟨S.off, S.left, S.vis, S.vis, []⟩ ∧ Tch b db vb w W ∧ Below B w W) (by apply opN; repeat' (first | apply OpAt.z | apply OpAt.s)) (by rfl) (by rfl) (by rfl) (fun W hC hK => ?_) ?_
    · refine op_x3 rfl rfl rfl rfl rfl (fun _ _ => rfl) ((hSt.out W hK.1).mono ?_)
      rintro e W' ⟨⟨v, rfl⟩, pv', h1, h2, h3, _, h5⟩
      obtain ⟨k1, k2, k3⟩ := hK.1.settled_d h1 h2 h3 h5
      exact ⟨_, rfl, fun h => absurd (by simp) h, _, ⟨pv', k1, (Tch.of_below hK.2).trans k2, (hK.2.mono (Nat.le_trans hH.out.hb (Nat.le_of_lt hH.out.lt.1))).trans k3⟩, rfl⟩
    rintro _ _ rfl
    simp only [Act.put, List.setIfInBounds_toArray, List.set_cons_zero, List.set_cons_succ]
    refine k_nil ?_
    intro W hC hK
    have hKH := hide hK
    clear hC hK
    go_wp2
    go_ret
    obtain ⟨pv', k1, k2, k3⟩ := hKH.out
    rw [hoffH.out] at k1
    exact ⟨by rw [hrH.out]; rfl, pv', by rw [hrH.out]; exact k1, k2, k3⟩
  · rw [hoff, if_pos rfl] at hr
    rw [hoff] at hC
    have hrH := hide hr
    clear hr h hoff
    go_enter Tryz.func47, Tryz.ntmps47
    go_wp2_with (go_at_call 51; refine hC.out.mono ?_; rintro e w' ⟨rfl, rfl⟩)
    go_ret
    exact ⟨by rw [hrH.out]; rfl, pv, by rw [hrH.out]; exact hH.out, Tch.refl _ _ _ _, Below.refl _ _⟩
end Go.Proofs.YtllbphanfahkkaaGreatDoor

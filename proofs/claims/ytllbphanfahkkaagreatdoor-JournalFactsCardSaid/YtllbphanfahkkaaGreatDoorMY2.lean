/-
  Package disk: settle: what it changes.
-/
import Derived.Test.YtllbphanfahkkaaGreatDoorMY1
namespace Go.Proofs.YtllbphanfahkkaaGreatDoor
open Go.RowKit RG
theorem write_zero (w : World) : (zeroValue 103).run Tryz.prog w = .ok (.agg #[.int .i64 0, .string ⟨#[]⟩]) w := by go_simp
/-- some blocks may change -/
structure ChgS (Q : Nat → Prop) (W W' : World) : Prop where
  os : W'.os = W.os
  tape : W'.tape = W.tape
  output : W'.output = W.output
  size : W.heap.size ≤ W'.heap.size
  block : ∀ k, k < W.heap.size → ¬ Q k → W'.heap[k]? = W.heap[k]?
theorem ChgS.refl (Q : Nat → Prop) (W : World) : ChgS Q W W := ⟨rfl, rfl, rfl, Nat.le_refl _, fun _ _ _ => rfl⟩
theorem ChgS.trans {Q : Nat → Prop} {W W' W'' : World} (h : ChgS Q W W') (g : ChgS Q W' W'') : ChgS Q W W'' :=
  ⟨g.os.trans h.os, g.tape.trans h.tape, g.output.trans h.output, Nat.le_trans h.size g.size, fun k hk h1 => (g.block k (Nat.lt_of_lt_of_le hk h.size) h1).trans (h.block k hk h1)⟩
theorem ChgS.set {Q : Nat → Prop} {b i : Nat} {W W' : World} (h : ChgS Q W W') (hb : Q b) (v : Value) : ChgS Q W (W'.setCell ⟨b, i, none⟩ v) :=
  h.trans ⟨rfl, rfl, rfl, by simp, fun k _ hk => Below.heap_setCell _ _ _ _ (fun e => hk (e ▸ hb))⟩
theorem ChgS.row {Q : Nat → Prop} {b : Nat} {W W' : World} (h : ChgS Q W W') (hb : Q b) (cs : Array Value) : ChgS Q W (W'.setRow b cs) :=
  h.trans ⟨rfl, rfl, rfl, by simp [World.setRow], fun k _ hk => setRow_else _ _ _ _ (fun e => hk (e ▸ hb))⟩
theorem ChgS.grown {Q : Nat → Prop} {W W' W'' : World} {g : Option Nat} (h : ChgS Q W W') (hg : W'.grownBy W'' g) (hq : ∀ k, g = some k → Q k) : ChgS Q W W'' :=
  h.trans ⟨hg.os, hg.tape, hg.output, hg.size, fun k hk hn => hg.block k hk fun e => hn (hq k e.symm)⟩
theorem blocks_ne {W : World} {i j : Nat} {c c' : Array Value} {t t' : TypeId} {f f' : Nat × Nat} (h1 : W.heap[i]? = some (.cells c t f)) (h2 : W.heap[j]? = some (.cells c' t' f')) (hne : t ≠ t') : i ≠ j := by
  rintro rfl
  rw [h1] at h2
  injection h2 with h2
  injection h2 with _ h2
  exact hne h2
theorem own_keep {W W' : World} {B : Nat} {e : TypeId} {k n : Nat} {v : Value} {xs : List Value} (h : W.ownsRow B e k v n xs) (hk : ∀ g, v.ownBlock = some g → W'.heap[g]? = W.heap[g]?) : W'.ownsRow B e k v n xs := by
  refine ⟨h.1, h.2.imp id ?_⟩
  rintro ⟨g, cap, cur, rfl, h2, h3, h4⟩
  exact ⟨g, cap, cur, rfl, h2, (hk g rfl).trans h3, h4⟩
set_option maxRecDepth 10000 in
set_option maxHeartbeats 1000000 in
theorem settle_any (b f t n : Nat) (off : Bool) (left : Int) (dv vv pv : Value) (lf lt : List UInt8) (l : List (Nat × ByteArray)) (B : Nat) (w : World)
    (hr : w.heap[b]? = some (.cells (RW.dkl off left dv vv pv) 108 (0, 0))) (hf : w.heap[f]? = some (.cells (RW.byl lf).toArray 5 (0, 0))) (ht : w.heap[t]? = some (.cells (RW.byl lt).toArray 5 (0, 0)))
    (hlf : lf.length = n) (hlt : lt.length = n) (hp : w.ownsRow B 103 2 pv l.length (rowCells RW.wrl l)) (hft : f ≠ t) :
    Calls Tryz.prog 70 #[.pointer (some ⟨b, 0, none⟩), .slice (some ⟨f, 0, none⟩) n n, .slice (some ⟨t, 0, none⟩) n n] w fun e w' => (∃ v, e = .returned v) ∧ ∃ pv', w'.heap[b]? = some (.cells (RW.dkl off left dv vv pv') 108 (0, 0)) ∧ w'.ownsRow B 103 2 pv' 0 [] ∧ w'.heap[t]? = some (.cells (RW.byl lf).toArray 5 (0, 0)) ∧ (∀ g, pv'.ownBlock = some g → pv.ownBlock = some g) ∧ ChgS (fun j => j = b ∨ j = t ∨ pv.ownBlock = some j) w w' := by
  have hbt : b ≠ t := blocks_ne hr ht (by decide)
  have hbg : ∀ g, pv.ownBlock = some g → g ≠ b ∧ g ≠ t := fun g hg => by
    rcases hp.2 with ⟨rfl, _⟩ | ⟨g', cap, cur, rfl, _, h3, _⟩
    · cases hg
    · cases hg
      exact ⟨blocks_ne h3 hr (by decide), blocks_ne h3 ht (by decide)⟩
  have hcp := run_copy_row (P := Tryz.prog) w 39 39 3 5 t 0 n n ⟨f, 0, none⟩ n n _ _ (RW.byl lf) Tryz.underlying39 byte_info ht (by rw [byl_len, hlf]; exact (Nat.min_self n).symm)
    (fun j v hj => by rw [show (⟨f, 0, none⟩ : Addr).add j = ⟨f, j, none⟩ by rw [Addr.add_mid, Nat.zero_add], cellAt hf j]; simpa using hj) (by rw [Nat.zero_add, List.size_toArray, byl_len, byl_len, hlf, hlt]; exact Nat.le_refl _) (byl_one lf)
  obtain ⟨W1, hW1⟩ : ∃ W, W = w.setRow t ((RW.byl lt).toArray.toList.take 0 ++ RW.byl lf ++ (RW.byl lt).toArray.toList.drop (0 + (RW.byl lf).length)).toArray := ⟨_, rfl⟩
  rw [← hW1] at hcp
  have ht1 : W1.heap[t]? = some (.cells (RW.byl lf).toArray 5 (0, 0)) := by
    rw [hW1]
    refine (setRow_heap _ _ _ _ _ _ ht).trans ?_
    rw [List.take_zero, List.nil_append, Nat.zero_add, List.drop_eq_nil_iff.2 (by simp [byl_len, hlf, hlt]), List.append_nil]
  have hc1 : ChgS (fun j => j = b ∨ j = t ∨ pv.ownBlock = some j) w W1 := by
    rw [hW1]
    exact (ChgS.refl _ w).row (.inr (.inl rfl)) _
  have hr1 : W1.heap[b]? = some (.cells (RW.dkl off left dv vv pv) 108 (0, 0)) := by rw [hW1]; exact (setRow_else _ _ _ _ hbt).trans hr
  have hp1 : W1.ownsRow B 103 2 pv l.length (rowCells RW.wrl l) := own_keep hp fun g hg => by rw [hW1]; exact setRow_else _ _ _ _ (hbg g hg).2
  have c1 : W1.cell? ⟨b, 4, none⟩ = some pv := cellAt hr1 4
  have hgl : (goInt ((RW.byl lf).length : Int)) = .int .i64 n := by rw [byl_len, hlf]; rfl
  have hbtH := hide hbt
  clear hr hf ht hlf hlt hp hft hW1 hbt
  rcases hp1.2 with ⟨rfl, h0⟩ | ⟨g, cap, cur, rfl, hBg, hg, hcap⟩
  · have f1 : W1.frozen? ⟨b, 4, none⟩ = false := by simp [World.frozen?, hr1]
    have ht1H := hide ht1
    have hc1H := hide hc1
    have hr1H := hide hr1
    have hcl : ∀ ty, (Builtin.clear_ #[104] ty #[.slice none 0 0]).run Tryz.prog W1 = .ok (.tuple #[]) W1 := fun ty => by simp [Builtin.clear_, run_underlying Tryz.underlying104]
    have hcl' := hcl 0
    clear ht1 hc1 hr1 hp1 hbg h0 hgl
    go_enter Tryz.func70, Tryz.ntmps70
    go_wp2
    go_end0
    refine ⟨⟨_, rfl⟩, .slice none 0 0, (heap_setCell_same _ _ _ _ _ _ hr1H.out).trans rfl, World.ownsRow_nil _ _ _ _, (Below.heap_setCell _ _ _ _ (Ne.symm hbtH.out)).trans ht1H.out, fun g hg => hg, hc1H.out.set (.inl rfl) _⟩
  · obtain ⟨W2, hcl, hg2, hgrow⟩ : ∃ W2, (∀ ty, (Builtin.clear_ #[104] ty #[.slice (some ⟨g, 0, none⟩) l.length cap]).run Tryz.prog W1 = .ok (.tuple #[]) W2) ∧ W2.ownsRow B 103 2 (.slice (some ⟨g, 0, none⟩) 0 cap) 0 [] ∧ W1.grownBy W2 (some g) := by
      have hcut := own_cut wrl_len hp1 0 (Nat.zero_le _)
      rw [List.take_zero] at hcut
      rcases Nat.eq_zero_or_pos l.length with hz | hz
      · refine ⟨W1, fun ty => ?_, hcut, World.grownBy.refl _ _⟩
        rw [hz]
        simp [Builtin.clear_, run_underlying Tryz.underlying104]
      · obtain ⟨vs, _, hcl⟩ := run_clear_rows (P := Tryz.prog) W1 104 103 (.agg #[.int .i64 0, .string ⟨#[]⟩]) Tryz.underlying104 write_zero (by intro u hu; simp [Value.cells] at hu; rcases hu with rfl | rfl <;> rfl) g 0 l.length cap hz (own_there hp1 0 _ (by simp [Value.cells]))
        exact ⟨_, hcl, own_tail hcut 0 (by simp) vs, setCells_grown vs W1 g 0⟩
    have hng := hbg g rfl
    have hr2 : W2.heap[b]? = some (.cells (RW.dkl off left dv vv (.slice (some ⟨g, 0, none⟩) l.length cap)) 108 (0, 0)) := (hgrow.block b (Array.getElem?_eq_some_iff.1 hr1).1 (fun e => hng.1 (Option.some.inj e).symm)).trans hr1
    have ht2 := hide ((hgrow.block t (Array.getElem?_eq_some_iff.1 ht1).1 (fun e => hng.2 (Option.some.inj e).symm)).trans ht1)
    have hc2 := hide (hc1.grown hgrow (fun k e => .inr (.inr e)))
    have c2 : W2.cell? ⟨b, 4, none⟩ = some (.slice (some ⟨g, 0, none⟩) l.length cap) := cellAt hr2 4
    have f2 : W2.frozen? ⟨b, 4, none⟩ = false := by simp [World.frozen?, hr2]
    have hg2H := hide hg2
    have hr2H := hide hr2
    have hngH := hide hng
    have hcl' := hcl 0
    obtain ⟨k, hk⟩ : ∃ k, k = l.length := ⟨_, rfl⟩
    have hkc : k ≤ cap := by rw [hk]; exact hcap.1
    rw [← hk] at hcl hcl' c1 c2 hr2H hc2
    clear ht1 hc1 hr1 hp1 hbg hgl hg2 hr2 hgrow hg hcap hng hBg hk
    go_enter Tryz.func70, Tryz.ntmps70
    go_wp2
    go_end0
    refine ⟨⟨_, rfl⟩, _, (heap_setCell_same _ _ _ _ _ _ hr2H.out).trans rfl, ?_, (Below.heap_setCell _ _ _ _ (Ne.symm hbtH.out)).trans ht2.out, fun g hg => hg, hc2.out.set (.inl rfl) _⟩
    exact own_keep hg2H.out fun j hj => by cases hj; exact Below.heap_setCell _ _ _ _ hngH.out.1
end Go.Proofs.YtllbphanfahkkaaGreatDoor

/-
  Package disk: New, Size, Pending, Cut, Sync, Read: what they return, what they change.
-/
namespace Go.Proofs.YtllbphanfahkkaaGreatDoor
open Go.RowKit RG
theorem size_nil (w : World) : Calls Tryz.prog 56 #[.pointer none] w fun e w' => e = .returned (.int .i64 0) ∧ w = w' := by
  go_enter Tryz.func56, Tryz.ntmps56
  go_wp2
  go_ret
  exact ⟨rfl, rfl⟩
theorem pending_nil (w : World) : Calls Tryz.prog 33 #[.pointer none] w fun e w' => e = .returned (.int .i64 0) ∧ w = w' := by
  go_enter Tryz.func33, Tryz.ntmps33
  go_wp2
  go_ret
  exact ⟨rfl, rfl⟩
section
variable {B b n db vb : Nat} {pv : Value} {S : RW.Dk}
theorem size_any (w : World) (h : DiskAt w B b n db vb pv S) : Calls Tryz.prog 56 #[.pointer (some ⟨b, 0, none⟩)] w fun e w' => e = .returned (.int .i64 (n : Int)) ∧ w = w' := by
  have c2 : w.cell? ⟨b, 2, none⟩ = some (.slice (some ⟨db, 0, none⟩) n n) := cellAt h.row 2
  clear h
  go_enter Tryz.func56, Tryz.ntmps56
  go_wp2
  go_ret
  exact ⟨rfl, rfl⟩
theorem DiskAt.form {W : World} (h : DiskAt W B b n db vb pv S) : ∃ a c, pv = .slice a S.pend.length c := by
  rcases h.pend.2 with ⟨rfl, h0⟩ | ⟨g, cap, cur, rfl, _⟩
  · exact ⟨none, 0, by rw [h0]⟩
  · exact ⟨_, _, rfl⟩
theorem pending_any (w : World) (h : DiskAt w B b n db vb pv S) : Calls Tryz.prog 33 #[.pointer (some ⟨b, 0, none⟩)] w fun e w' => e = .returned (.int .i64 (S.pend.length : Int)) ∧ w = w' := by
  obtain ⟨a, c, rfl⟩ := h.form
  have c4 : w.cell? ⟨b, 4, none⟩ = some (.slice a S.pend.length c) := cellAt h.row 4
  obtain ⟨k, hk⟩ : ∃ k, k = S.pend.length := ⟨_, rfl⟩
  rw [← hk] at c4 ⊢
  clear h hk
  go_enter Tryz.func33, Tryz.ntmps33
  go_wp2
  go_ret
  exact ⟨rfl, rfl⟩
end
theorem ChgS.tch {W W' : World} {B b n db vb : Nat} {pv : Value} {S : RW.Dk} {Q : Nat → Prop} (h : DiskAt W B b n db vb pv S) (hc : ChgS Q W W') (hQ : ∀ j, Q j → j = b ∨ j = db ∨ j = vb ∨ pv.ownBlock = some j) : Tch b db vb W W' ∧ Below B W W' := by
  have hown : ∀ j, pv.ownBlock = some j → B ≤ j ∧ ∃ cur fr, W.heap[j]? = some (.cells cur 103 fr) := fun j hj => by
    rcases h.pend.2 with ⟨rfl, _⟩ | ⟨g, cap, cur, rfl, h2, h3, _⟩
    · cases hj
    · cases hj
      exact ⟨h2, cur, _, h3⟩
  refine ⟨⟨hc.os, hc.tape, hc.output, hc.size, fun k hk h1 h2 h3 h4 => hc.block k hk fun hq => ?_⟩, ⟨hc.os, hc.tape, hc.output, hc.size, fun k hk => hc.block k (Nat.lt_trans (Nat.lt_of_lt_of_le hk h.hb) h.lt.1) fun hq => ?_⟩⟩
  · rcases hQ k hq with e | e | e | e
    · exact h1 e
    · exact h2 e
    · exact h3 e
    · obtain ⟨_, cur, fr, hh⟩ := hown k e
      exact h4 cur fr hh
  · have h1 := h.hb
    have h2 := h.hd
    have h3 := h.hv
    rcases hQ k hq with e | e | e | e
    · omega
    · omega
    · omega
    · have := (hown k e).1
      omega
theorem DiskAt.settled_d {W W' : World} {B b n db vb : Nat} {pv pv' : Value} {S : RW.Dk} (h : DiskAt W B b n db vb pv S)
    (g1 : W'.heap[b]? = some (.cells (RW.dkl S.off (S.left : Int) (.slice (some ⟨db, 0, none⟩) n n) (.slice (some ⟨vb, 0, none⟩) n n) pv') 108 (0, 0))) (g2 : W'.ownsRow B 103 2 pv' 0 [])
    (g3 : W'.heap[db]? = some (.cells (RW.byl S.vis).toArray 5 (0, 0))) (g5 : ChgS (fun j => j = b ∨ j = db ∨ pv.ownBlock = some j) W W') :
    DiskAt W' B b n db vb pv' ⟨S.off, S.left, S.vis, S.vis, []⟩ ∧ Tch b db vb W W' ∧ Below B W W' := by
  obtain ⟨ha1, ha2, ha3⟩ := h.apart
  refine ⟨⟨g1, g3, (g5.block vb h.lt.2.2 ?_).trans h.vis, g2, h.hb, h.hd, h.hv, h.ne, h.lv, h.lv, h.hn, h.lf⟩, ChgS.tch h g5 fun j hj => ?_⟩
  · rintro (e | e | e)
    · exact ha2 e.symm
    · exact h.ne e.symm
    · exact (ha3 _ e).2.2 rfl
  · rcases hj with e | e | e
    · exact .inl e
    · exact .inr (.inl e)
    · exact .inr (.inr (.inr e))
theorem DiskAt.settled_v {W W' : World} {B b n db vb : Nat} {pv pv' : Value} {S : RW.Dk} (h : DiskAt W B b n db vb pv S)
    (g1 : W'.heap[b]? = some (.cells (RW.dkl S.off (S.left : Int) (.slice (some ⟨db, 0, none⟩) n n) (.slice (some ⟨vb, 0, none⟩) n n) pv') 108 (0, 0))) (g2 : W'.ownsRow B 103 2 pv' 0 [])
    (g3 : W'.heap[vb]? = some (.cells (RW.byl S.dur).toArray 5 (0, 0))) (g5 : ChgS (fun j => j = b ∨ j = vb ∨ pv.ownBlock = some j) W W') :
    DiskAt W' B b n db vb pv' ⟨S.off, S.left, S.dur, S.dur, []⟩ ∧ Tch b db vb W W' ∧ Below B W W' := by
  obtain ⟨ha1, ha2, ha3⟩ := h.apart
  refine ⟨⟨g1, (g5.block db h.lt.2.1 ?_).trans h.dur, g3, g2, h.hb, h.hd, h.hv, h.ne, h.ld, h.ld, h.hn, h.lf⟩, ChgS.tch h g5 fun j hj => ?_⟩
  · rintro (e | e | e)
    · exact ha1 e.symm
    · exact h.ne e
    · exact (ha3 _ e).2.1 rfl
  · rcases hj with e | e | e
    · exact .inl e
    · exact .inr (.inr (.inl e))
    · exact .inr (.inr (.inr e))
theorem ldSt_power (x y : Value) : Instr.storeAt 106 x y = stRow 106 x y := rfl
attribute [local go_sem ↓] ldSt_power
theorem cut_nil (k : Int) (w : World) : Calls Tryz.prog 30 #[.pointer none, .int .i64 k] w fun e w' => e = .returned (.int .i64 1) ∧ w = w' := by
  have hC := hide (check_nil w)
  go_enter Tryz.func30, Tryz.ntmps30
  go_wp2_with (go_at_call 51; refine hC.out.mono ?_; rintro e w' ⟨rfl, rfl⟩)
  go_ret
  exact ⟨rfl, rfl⟩
theorem sync_nil (w : World) : Calls Tryz.prog 47 #[.pointer none] w fun e w' => e = .returned (.int .i64 1) ∧ w = w' := by
  have hC := hide (check_nil w)
  go_enter Tryz.func47, Tryz.ntmps47
  go_wp2_with (go_at_call 51; refine hC.out.mono ?_; rintro e w' ⟨rfl, rfl⟩)
  go_ret
  exact ⟨rfl, rfl⟩
theorem read_nil (o k : Int) (w : World) : Calls Tryz.prog 57 #[.pointer none, .int .i64 o, .int .i64 k] w fun e w' => e = .returned (.tuple #[.string ⟨#[]⟩, .int .i64 1]) ∧ w = w' := by
  have hC := hide (check_nil w)
  go_enter Tryz.func57, Tryz.ntmps57
  go_wp2_with (go_at_call 51; refine hC.out.mono ?_; rintro e w' ⟨rfl, rfl⟩)
  exact bodyPost_ret (results_tmp2 rfl _ _ _) rfl ⟨rfl, rfl⟩
theorem write_nil (o : Int) (s : ByteArray) (w : World) : Calls Tryz.prog 14 #[.pointer none, .int .i64 o, .string s] w fun e w' => e = .returned (.int .i64 1) ∧ w = w' := by
  have hC := hide (check_nil w)
  go_enter Tryz.func14, Tryz.ntmps14
  go_wp2_with (go_at_call 51; refine hC.out.mono ?_; rintro e w' ⟨rfl, rfl⟩)
  go_ret
  exact ⟨rfl, rfl⟩
set_option maxRecDepth 10000 in
set_option maxHeartbeats 1000000 in
theorem cut_any (B b n db vb : Nat) (pv : Value) (S : RW.Dk) (k : Int) (hk : k ≤ 9223372036854775807) (w : World) (h : DiskAt w B b n db vb pv S) :
    Calls Tryz.prog 30 #[.pointer (some ⟨b, 0, none⟩), .int .i64 k] w fun e w' => e = .returned (.int .i64 (S.cut k).1) ∧ DiskAt w' B b n db vb pv (S.cut k).2 ∧ Tch b db vb w w' ∧ Below B w w' := by
  have hC := hide (check_any b S.off S.left _ _ pv w h.row)
  have hH := hide h
  obtain ⟨r, hr⟩ : ∃ r, r = S.cut k := ⟨_, rfl⟩
  rw [← hr]
  rw [RW.Dk.cut] at hr
  cases hoff : S.off
  · rw [hoff, if_neg Bool.false_ne_true] at hr
    rw [hoff] at hC
    by_cases hk0 : k < 0
    · rw [if_pos hk0] at hr
      have hrH := hide hr
      clear hr h hoff
      go_enter Tryz.func30, Tryz.ntmps30
      go_wp2_with (go_at_call 51; refine hC.out.mono ?_; rintro e w' ⟨rfl, rfl⟩)
      go_ret
      exact ⟨by rw [hrH.out]; rfl, by rw [hrH.out]; exact hH.out, Tch.refl _ _ _ _, Below.refl _ _⟩
    · rw [if_neg hk0] at hr
      have hrH := hide hr
      have hoffH := hide hoff
      obtain ⟨k0, hk0e⟩ : ∃ b : Bool, b = (k == 0) := ⟨_, rfl⟩
      have hst : (stRow 106 (.pointer (some ⟨b, 0, none⟩)) (.agg #[.bool (k == 0), .int .i64 k])).run Tryz.prog w = .ok () (w.setCells b 0 [.bool (k == 0), .int .i64 k]) :=
        stRow_mid (cells := #[.bool (k == 0), .int .i64 k]) (fun j hj => by
          have hj2 : j < 2 := hj
          rw [Nat.zero_add]
          refine ⟨?_, by simp [World.frozen?, h.row]⟩
          rw [cellAt h.row]
          rcases j with _ | _ | j
          · rfl
          · rfl
          · omega) (by kernel_rfl) (by simp; exact ⟨rfl, rfl⟩)
      clear hr h hoff hk0e
      go_enter Tryz.func30, Tryz.ntmps30
      go_wp2_with (go_at_call 51; refine hC.out.mono ?_; rintro e w' ⟨rfl, rfl⟩)
      go_ret
      have hg := hH.out
      have hrow := setCells_heap [.bool (k == 0), .int .i64 k] w b 0 _ _ _ hg.row
      have hgr := setCells_grown [.bool (k == 0), .int .i64 k] w b 0
      obtain ⟨ha1, ha2, ha3⟩ := hg.apart
      have hoth : ∀ j, j < w.heap.size → j ≠ b → (w.setCells b 0 [.bool (k == 0), .int .i64 k]).heap[j]? = w.heap[j]? := fun j hj hne => hgr.block j hj fun e => hne (Option.some.inj e)
      obtain ⟨l1, l2, l3⟩ := hg.lt
      refine ⟨by rw [hrH.out]; rfl, ?_, ⟨hgr.os, hgr.tape, hgr.output, hgr.size, fun j hj h1 _ _ _ => hoth j hj h1⟩, ⟨hgr.os, hgr.tape, hgr.output, hgr.size, fun j hj => hoth j (by have := hg.hb; omega) (by have := hg.hb; omega)⟩⟩
      rw [hrH.out]
      have hkb : (k == 0) = decide (k = 0) := by
        by_cases h : k = 0
        · subst h; rfl
        · rw [decide_eq_false h, beq_eq_false_iff_ne]; exact h
      have hkn : ((k.toNat : Nat) : Int) = k := Int.toNat_of_nonneg (by omega)
      refine ⟨?_, (hoth db l2 (Ne.symm ha1)).trans hg.dur, (hoth vb l3 (Ne.symm ha2)).trans hg.vis, own_keep hg.pend fun g hgb => hoth g (hg.pend.lt g hgb).2 (ha3 g hgb).1, hg.hb, hg.hd, hg.hv, hg.ne, hg.ld, hg.lv, hg.hn, ?_⟩
      · refine hrow.trans ?_
        show _ = some (Obj.cells (RW.dkl (decide (k = 0)) (k.toNat : Int) _ _ pv) _ _)
        rw [hkn, ← hkb]
        rfl
      · show ((k.toNat : Nat) : Int) ≤ _
        rw [hkn]; exact hk
  · rw [hoff, if_pos rfl] at hr
    rw [hoff] at hC
    have hrH := hide hr
    clear hr h hoff
    go_enter Tryz.func30, Tryz.ntmps30
    go_wp2_with (go_at_call 51; refine hC.out.mono ?_; rintro e w' ⟨rfl, rfl⟩)
    go_ret
    exact ⟨by rw [hrH.out]; rfl, by rw [hrH.out]; exact hH.out, Tch.refl _ _ _ _, Below.refl _ _⟩
set_option maxRecDepth 10000 in
set_option maxHeartbeats 1000000 in
theorem sync_any (B b n db vb : Nat) (pv : Value) (S : RW.Dk) (w : World) (h : DiskAt w B b n db vb pv S) :
    Calls Tryz.prog 47 #[.pointer (some ⟨b, 0, none⟩)] w fun e w' => e = .returned (.int .i64 S.sync.1) ∧ ∃ pv', DiskAt w' B b n db vb pv' S.sync.2 ∧ Tch b db vb w w' ∧ Below B w w' := by
  have hC := hide (check_any b S.off S.left _ _ pv w h.row)
  have hH := hide h
  obtain ⟨r, hr⟩ : ∃ r, r = S.sync := ⟨_, rfl⟩
  rw [← hr]
  rw [RW.Dk.sync] at hr
  cases hoff : S.off
  · rw [hoff, if_neg Bool.false_ne_true] at hr
    rw [hoff] at hC
    have hrH := hide hr
    have hoffH := hide hoff
    have hSt := hide (fun W (h : DiskAt W B b n db vb pv S) => settle_any b vb db n S.off S.left _ _ pv S.vis S.dur S.pend B W h.row h.vis h.dur h.lv h.ld h.pend (Ne.symm h.ne))
    clear hr h hoff
    go_enter Tryz.func47, Tryz.ntmps47
    go_upto_region 3 with (go_at_call 51; refine hC.out.mono ?_; rintro e w' ⟨rfl, rfl⟩)
    refine wp_region_k (fun g W => 9 ∉ g → W.heap[b]? = some (.cells (RW.dkl S.off (S.left : Int) (.slice (some ⟨db, 0, none⟩) n n) (.slice (some ⟨vb, 0, none⟩) n n) pv) 108 (0, 0))) (fun W => DiskAt W B b n db vb pv S ∧ Below w.heap.size w W) [9] (.op 0 (.op 1 (.op 2 (.op 3 (.op 4 (.op 5 (.op 6 (.op 7 (.op 8 (.op 9 .nil)))))))))) (by kernel_rfl) (by kernel_rfl) (by rfl) (by kernel_rfl) (fun _ => hH.out.row) ⟨hH.out.next (Below.refl _ _).drew, (Below.refl _ _).drew⟩ ?_
    refine k_val (.pointer (some ⟨b, 0, none⟩)) (by apply opN; repeat' (first | apply OpAt.z | apply OpAt.s)) (by rfl) (by rfl) (fun _ W hS => op_mv rfl rfl) ?_
    simp only [Act.put, List.setIfInBounds_toArray, List.set_cons_zero, List.set_cons_succ]
    refine k_val (.pointer (some ⟨b, 0, none⟩)) (by apply opN; repeat' (first | apply OpAt.z | apply OpAt.s)) (by rfl) (by rfl) (fun _ W hS => op_mv rfl rfl) ?_
    simp only [Act.put, List.setIfInBounds_toArray, List.set_cons_zero, List.set_cons_succ]
    refine k_val (.pointer (some ⟨b, 0, none⟩)) (by apply opN; repeat' (first | apply OpAt.z | apply OpAt.s)) (by rfl) (by rfl) (fun _ W hS => op_nc rfl rfl) ?_
    simp only [Act.put, List.setIfInBounds_toArray, List.set_cons_zero, List.set_cons_succ]
    refine k_val (.pointer (some ⟨b, 3, none⟩)) (by apply opN; repeat' (first | apply OpAt.z | apply OpAt.s)) (by rfl) (by rfl) (fun _ W hS => op_fa_d (i := 2) (by decide) rfl rfl rfl) ?_
    simp only [Act.put, List.setIfInBounds_toArray, List.set_cons_zero, List.set_cons_succ]
    refine k_bef 9 (.slice (some ⟨vb, 0, none⟩) n n) (by apply opN; repeat' (first | apply OpAt.z | apply OpAt.s)) (by rfl) (by rfl) (by decide +kernel) (by rfl) (fun g W hg hS => op_load_by rfl rfl (cellAt (hS hg) 3)) ?_
    simp only [Act.put, List.setIfInBounds_toArray, List.set_cons_zero, List.set_cons_succ]
    refine k_val (.pointer (some ⟨b, 0, none⟩)) (by apply opN; repeat' (first | apply OpAt.z | apply OpAt.s)) (by rfl) (by rfl) (fun _ W hS => op_mv rfl rfl) ?_
    simp only [Act.put, List.setIfInBounds_toArray, List.set_cons_zero, List.set_cons_succ]
    refine k_val (.pointer (some ⟨b, 0, none⟩)) (by apply opN; repeat' (first | apply OpAt.z | apply OpAt.s)) (by rfl) (by rfl) (fun _ W hS => op_nc rfl rfl) ?_
    simp only [Act.put, List.setIfInBounds_toArray, List.set_cons_zero, List.set_cons_succ]
    refine k_val (.pointer (some ⟨b, 2, none⟩)) (by apply opN; repeat' (first | apply OpAt.z | apply OpAt.s)) (by rfl) (by rfl) (fun _ W hS => op_fa_d (i := 1) (by decide) rfl rfl rfl) ?_
    simp only [Act.put, List.setIfInBounds_toArray, List.set_cons_zero, List.set_cons_succ]
    refine k_bef 9 (.slice (some ⟨db, 0, none⟩) n n) (by apply opN; repeat' (first | apply OpAt.z | apply OpAt.s)) (by rfl) (by rfl) (by decide +kernel) (by rfl) (fun g W hg hS => op_load_by rfl rfl (cellAt (hS hg) 2)) ?_
    simp only [Act.put, List.setIfInBounds_toArray, List.set_cons_zero, List.set_cons_succ]
    refine k_step (fun K' u => K' = fun W => ∃ pv', DiskAt W B b n db vb pv' ⟨S.off, S.left, S.vis, S.vis, []⟩ ∧ Tch b db vb w W ∧ Below B w W) (by apply opN; repeat' (first | apply OpAt.z | apply OpAt.s)) (by rfl) (by rfl) (by rfl) (fun W hC hK => ?_) ?_
    · refine op_x3 rfl rfl rfl rfl rfl (fun _ _ => rfl) ((hSt.out W hK.1).mono ?_)
      rintro e W' ⟨⟨v, rfl⟩, pv', h1, h2, h3, _, h5⟩
      obtain ⟨k1, k2, k3⟩ := hK.1.settled_d h1 h2 h3 h5
      exact ⟨_, rfl, fun h => absurd (by simp) h, _, ⟨pv', k1, (Tch.of_below hK.2).trans k2, (hK.2.mono (Nat.le_trans hH.out.hb (Nat.le_of_lt hH.out.lt.1))).trans k3⟩, rfl⟩
    rintro _ _ rfl
    simp only [Act.put, List.setIfInBounds_toArray, List.set_cons_zero, List.set_cons_succ]
    refine k_nil ?_
    intro W hC hK
    have hKH := hide hK
    clear hC hK
    go_wp2
    go_ret
    obtain ⟨pv', k1, k2, k3⟩ := hKH.out
    rw [hoffH.out] at k1
    exact ⟨by rw [hrH.out]; rfl, pv', by rw [hrH.out]; exact k1, k2, k3⟩
  · rw [hoff, if_pos rfl] at hr
    rw [hoff] at hC
    have hrH := hide hr
    clear hr h hoff
    go_enter Tryz.func47, Tryz.ntmps47
    go_wp2_with (go_at_call 51; refine hC.out.mono ?_; rintro e w' ⟨rfl, rfl⟩)
    go_ret
    exact ⟨by rw [hrH.out]; rfl, pv, by rw [hrH.out]; exact hH.out, Tch.refl _ _ _ _, Below.refl _ _⟩
end Go.Proofs.YtllbphanfahkkaaGreatDoor

/-
  Package disk: New, Read: what they return, what they change.
-/
namespace Go.Proofs.YtllbphanfahkkaaGreatDoor
open Go.RowKit RG
theorem made_byl (n : Nat) : madeCells #[.int .u8 0] n = (RW.byl (List.replicate n 0)).toArray := by
  apply Array.ext
  · simp [madeCells, RW.byl]
  · intro i h1 h2
    have hi : i < n := by simpa [madeCells] using h1
    simp [madeCells, RW.byl, Nat.mod_one]
theorem run_make_by (n : Nat) (hn : n ≤ 4194304) (w : World) : (Instr.makeSlice 39 (.int .i64 (n : Int)) (.int .i64 (n : Int))).run Tryz.prog w = .ok (.slice (some ⟨w.heap.size, 0, none⟩) n n) (w.alloc (.cells (RW.byl (List.replicate n 0)).toArray 5)) := by
  have hinfo : (Tryz.prog.info? 5).map (fun i => (i.zero, i.size, i.bytes)) = some (some (.int .u8 0), 1, 1) := by kernel_rfl
  obtain ⟨i, hi, hz, hs, hb⟩ := info_parts hinfo
  have h := run_make (P := Tryz.prog) w 39 5 i (.int .u8 0) Tryz.underlying39 hi hz .i64 .i64 (n : Int) (n : Int) (by omega) (Int.le_refl _) (by rw [hb]; omega) (by omega)
  rw [hs, Nat.mul_one, Int.toNat_natCast] at h
  rw [h]
  show Result.ok _ (w.alloc (.cells (madeCells #[.int .u8 0] n) 5)) = _
  rw [made_byl]
theorem op_make {ev : Operand → Value} {o : Oper} {x y : Operand} {w : World} {n : Nat} (hn : n ≤ 4194304) (ho : o.op = .makeSlice 39 x y) (hx : ev x = .int .i64 (n : Int)) (hy : ev y = .int .i64 (n : Int)) :
    (execOp ev o).run Tryz.prog w = .ok (.value (.slice (some ⟨w.heap.size, 0, none⟩) n n)) (w.alloc (.cells (RW.byl (List.replicate n 0)).toArray 5)) := by
  have h := run_make_by n hn w
  unfold execOp
  rw [ho]
  simp only [hx, hy]
  simp [h]
theorem op_build_d {ev : Operand → Value} {o : Oper} {x y : Operand} {w : World} {p q : Option Addr} {n c n' c' : Nat} (ho : o.op = .build 108 #[(1, x), (2, y)]) (hx : ev x = .slice p n c) (hy : ev y = .slice q n' c') :
    (execOp ev o).run Tryz.prog w = .ok (.value (.agg (RW.dkl false 0 (.slice p n c) (.slice q n' c') (.slice none 0 0)))) w := by
  unfold execOp
  rw [ho]
  go_simp
  rfl
theorem op_box_d {ev : Operand → Value} {o : Oper} {x : Operand} {w : World} {cs : Array Value} (ho : o.op = .box 108 x) (hx : ev x = .agg cs) :
    (execOp ev o).run Tryz.prog w = .ok (.value (.pointer (some ⟨w.heap.size, 0, none⟩))) (w.alloc (.cells cs 108)) := by
  unfold execOp
  rw [ho]
  go_simp
/-- a new disk -/
def RW.dk0 (n : Nat) : RW.Dk := ⟨false, 0, List.replicate n 0, List.replicate n 0, []⟩
theorem diskAt_new {W : World} {B db vb n : Nat} (hn : n ≤ 4194304) (hd : W.heap[db]? = some (.cells (RW.byl (List.replicate n 0)).toArray 5 (0, 0))) (hv : W.heap[vb]? = some (.cells (RW.byl (List.replicate n 0)).toArray 5 (0, 0))) (h1 : B ≤ db) (h2 : B ≤ vb) (hne : db ≠ vb) :
    DiskAt (W.alloc (.cells (RW.dkl false 0 (.slice (some ⟨db, 0, none⟩) n n) (.slice (some ⟨vb, 0, none⟩) n n) (.slice none 0 0)) 108)) B W.heap.size n db vb (.slice none 0 0) (RW.dk0 n) :=
  ⟨newAt rfl, (Below.heap_alloc _ _ _ (Array.getElem?_eq_some_iff.1 hd).1).trans hd, (Below.heap_alloc _ _ _ (Array.getElem?_eq_some_iff.1 hv).1).trans hv, World.ownsRow_nil _ _ _ _, Nat.le_trans h1 (Nat.le_of_lt (Array.getElem?_eq_some_iff.1 hd).1), h1, h2, hne, List.length_replicate, List.length_replicate, hn, (show ((0 : Nat) : Int) ≤ 9223372036854775807 by decide)⟩
theorem new_no (n : Int) (h : ¬ (1 ≤ n ∧ n ≤ 4194304)) (w : World) : Calls Tryz.prog 25 #[.int .i64 n] w fun e w' => e = .returned (.tuple #[.pointer none, .int .i64 2]) ∧ w = w' := by
  by_cases h1 : n < 1
  · clear h
    go_enter Tryz.func25, Tryz.ntmps25
    go_wp2
    exact bodyPost_ret (results_tmp2 rfl _ _ _) rfl ⟨rfl, rfl⟩
  · have h2 : 4194304 < n := by omega
    clear h
    go_enter Tryz.func25, Tryz.ntmps25
    go_wp2
    exact bodyPost_ret (results_tmp2 rfl _ _ _) rfl ⟨rfl, rfl⟩
set_option maxRecDepth 10000 in
set_option maxHeartbeats 1000000 in
theorem new_any (n : Nat) (h1 : 1 ≤ n) (hn : n ≤ 4194304) (w : World) : Calls Tryz.prog 25 #[.int .i64 (n : Int)] w fun e w' => ∃ b, e = .returned (.tuple #[.pointer (some ⟨b, 0, none⟩), .int .i64 0]) ∧ (∃ db vb, DiskAt w' w.heap.size b n db vb (.slice none 0 0) (RW.dk0 n)) ∧ Below w.heap.size w w' := by
  have h1i : ¬ (n : Int) < 1 := by omega
  have h2i : ¬ 4194304 < (n : Int) := by omega
  have h1H := hide h1
  have hnH := hide hn
  clear h1 hn
  go_enter Tryz.func25, Tryz.ntmps25
  go_upto_region 3 with fail
  refine wp_region_k (fun _ W => Below w.heap.size w W) (fun _ => True) [1, 3, 5] (.op 0 (.op 2 (.fork 1 (.op 3 (.op 4 (.op 5 (.op 6 (.op 7 .nil))))) 3 (.op 1 (.op 4 (.op 5 (.op 6 (.op 7 .nil)))))))) (by kernel_rfl) (by kernel_rfl) (by rfl) (by kernel_rfl) ((Below.refl _ _).drew) trivial ?_
  refine k_val (.int .i64 (n : Int)) (by apply opN; repeat' (first | apply OpAt.z | apply OpAt.s)) (by rfl) (by rfl) (fun _ W hS => op_mv rfl rfl) ?_
  simp only [Act.put, List.setIfInBounds_toArray, List.set_cons_zero, List.set_cons_succ]
  refine k_val (.int .i64 (n : Int)) (by apply opN; repeat' (first | apply OpAt.z | apply OpAt.s)) (by rfl) (by rfl) (fun _ W hS => op_mv rfl rfl) ?_
  simp only [Act.put, List.setIfInBounds_toArray, List.set_cons_zero, List.set_cons_succ]
  refine h_fork ?_ ?_
  · refine k_one (fun K' u => ∃ g, u = .slice (some ⟨g, 0, none⟩) n n ∧ K' = fun W => w.heap.size ≤ g ∧ W.heap[g]? = some (.cells (RW.byl (List.replicate n 0)).toArray 5 (0, 0))) (by apply opN; repeat' (first | apply OpAt.z | apply OpAt.s)) (by rfl) (by rfl) (by rfl) (fun W hC hK => ?_) ?_
    · rw [op_make hnH.out rfl rfl rfl]
      exact ⟨Below.alloc hC (Below.size hC) _, _, ⟨Below.size hC, newAt rfl⟩, W.heap.size, rfl, rfl⟩
    rintro _ _ ⟨g1, rfl, rfl⟩
    simp only [Act.put, List.setIfInBounds_toArray, List.set_cons_zero, List.set_cons_succ]
    refine k_step (fun K' u => ∃ g, u = .slice (some ⟨g, 0, none⟩) n n ∧ K' = fun W => (w.heap.size ≤ g1 ∧ W.heap[g1]? = some (.cells (RW.byl (List.replicate n 0)).toArray 5 (0, 0))) ∧ (w.heap.size ≤ g ∧ W.heap[g]? = some (.cells (RW.byl (List.replicate n 0)).toArray 5 (0, 0))) ∧ g1 ≠ g) (by apply opN; repeat' (first | apply OpAt.z | apply OpAt.s)) (by rfl) (by rfl) (by rfl) (fun W hC hK => ?_) ?_
    · rw [op_make hnH.out rfl rfl rfl]
      have hlt := (Array.getElem?_eq_some_iff.1 hK.2).1
      exact ⟨Below.alloc hC (Below.size hC) _, _, ⟨⟨hK.1, (Below.heap_alloc _ _ _ hlt).trans hK.2⟩, ⟨Below.size hC, newAt rfl⟩, Nat.ne_of_lt hlt⟩, W.heap.size, rfl, rfl⟩
    rintro _ _ ⟨g2, rfl, rfl⟩
    simp only [Act.put, List.setIfInBounds_toArray, List.set_cons_zero, List.set_cons_succ]
    refine k_val (.agg (RW.dkl false 0 (.slice (some ⟨g1, 0, none⟩) n n) (.slice (some ⟨g2, 0, none⟩) n n) (.slice none 0 0))) (by apply opN; repeat' (first | apply OpAt.z | apply OpAt.s)) (by rfl) (by rfl) (fun _ W hS => op_build_d rfl rfl rfl) ?_
    simp only [Act.put, List.setIfInBounds_toArray, List.set_cons_zero, List.set_cons_succ]
    refine k_step (fun K' u => ∃ b, u = .pointer (some ⟨b, 0, none⟩) ∧ K' = fun W => DiskAt W w.heap.size b n g1 g2 (.slice none 0 0) (RW.dk0 n)) (by apply opN; repeat' (first | apply OpAt.z | apply OpAt.s)) (by rfl) (by rfl) (by rfl) (fun W hC hK => ?_) ?_
    · rw [op_box_d rfl rfl]
      exact ⟨Below.alloc hC (Below.size hC) _, _, diskAt_new hnH.out hK.1.2 hK.2.1.2 hK.1.1 hK.2.1.1 hK.2.2, W.heap.size, rfl, rfl⟩
    rintro _ _ ⟨b, rfl, rfl⟩
    simp only [Act.put, List.setIfInBounds_toArray, List.set_cons_zero, List.set_cons_succ]
    refine k_val (.pointer (some ⟨b, 0, none⟩)) (by apply opN; repeat' (first | apply OpAt.z | apply OpAt.s)) (by rfl) (by rfl) (fun _ W hS => op_asg rfl rfl) ?_
    simp only [Act.put, List.setIfInBounds_toArray, List.set_cons_zero, List.set_cons_succ]
    refine k_val (.int .i64 0) (by apply opN; repeat' (first | apply OpAt.z | apply OpAt.s)) (by rfl) (by rfl) (fun _ W hS => op_asg rfl rfl) ?_
    simp only [Act.put, List.setIfInBounds_toArray, List.set_cons_zero, List.set_cons_succ]
    refine k_nil ?_
    intro W hC hK
    have hKH := hide hK
    have hCH := hide hC
    clear hC hK
    go_wp2
    exact bodyPost_ret (results_tmp2 rfl _ _ _) rfl ⟨b, rfl, ⟨g1, g2, hKH.out⟩, hCH.out⟩
  · refine k_one (fun K' u => ∃ g, u = .slice (some ⟨g, 0, none⟩) n n ∧ K' = fun W => w.heap.size ≤ g ∧ W.heap[g]? = some (.cells (RW.byl (List.replicate n 0)).toArray 5 (0, 0))) (by apply opN; repeat' (first | apply OpAt.z | apply OpAt.s)) (by rfl) (by rfl) (by rfl) (fun W hC hK => ?_) ?_
    · rw [op_make hnH.out rfl rfl rfl]
      exact ⟨Below.alloc hC (Below.size hC) _, _, ⟨Below.size hC, newAt rfl⟩, W.heap.size, rfl, rfl⟩
    rintro _ _ ⟨g1, rfl, rfl⟩
    simp only [Act.put, List.setIfInBounds_toArray, List.set_cons_zero, List.set_cons_succ]
    refine k_step (fun K' u => ∃ g, u = .slice (some ⟨g, 0, none⟩) n n ∧ K' = fun W => (w.heap.size ≤ g1 ∧ W.heap[g1]? = some (.cells (RW.byl (List.replicate n 0)).toArray 5 (0, 0))) ∧ (w.heap.size ≤ g ∧ W.heap[g]? = some (.cells (RW.byl (List.replicate n 0)).toArray 5 (0, 0))) ∧ g1 ≠ g) (by apply opN; repeat' (first | apply OpAt.z | apply OpAt.s)) (by rfl) (by rfl) (by rfl) (fun W hC hK => ?_) ?_
    · rw [op_make hnH.out rfl rfl rfl]
      have hlt := (Array.getElem?_eq_some_iff.1 hK.2).1
      exact ⟨Below.alloc hC (Below.size hC) _, _, ⟨⟨hK.1, (Below.heap_alloc _ _ _ hlt).trans hK.2⟩, ⟨Below.size hC, newAt rfl⟩, Nat.ne_of_lt hlt⟩, W.heap.size, rfl, rfl⟩
    rintro _ _ ⟨g2, rfl, rfl⟩
    simp only [Act.put, List.setIfInBounds_toArray, List.set_cons_zero, List.set_cons_succ]
    refine k_val (.agg (RW.dkl false 0 (.slice (some ⟨g2, 0, none⟩) n n) (.slice (some ⟨g1, 0, none⟩) n n) (.slice none 0 0))) (by apply opN; repeat' (first | apply OpAt.z | apply OpAt.s)) (by rfl) (by rfl) (fun _ W hS => op_build_d rfl rfl rfl) ?_
    simp only [Act.put, List.setIfInBounds_toArray, List.set_cons_zero, List.set_cons_succ]
    refine k_step (fun K' u => ∃ b, u = .pointer (some ⟨b, 0, none⟩) ∧ K' = fun W => DiskAt W w.heap.size b n g2 g1 (.slice none 0 0) (RW.dk0 n)) (by apply opN; repeat' (first | apply OpAt.z | apply OpAt.s)) (by rfl) (by rfl) (by rfl) (fun W hC hK => ?_) ?_
    · rw [op_box_d rfl rfl]
      exact ⟨Below.alloc hC (Below.size hC) _, _, diskAt_new hnH.out hK.2.1.2 hK.1.2 hK.2.1.1 hK.1.1 (Ne.symm hK.2.2), W.heap.size, rfl, rfl⟩
    rintro _ _ ⟨b, rfl, rfl⟩
    simp only [Act.put, List.setIfInBounds_toArray, List.set_cons_zero, List.set_cons_succ]
    refine k_val (.pointer (some ⟨b, 0, none⟩)) (by apply opN; repeat' (first | apply OpAt.z | apply OpAt.s)) (by rfl) (by rfl) (fun _ W hS => op_asg rfl rfl) ?_
    simp only [Act.put, List.setIfInBounds_toArray, List.set_cons_zero, List.set_cons_succ]
    refine k_val (.int .i64 0) (by apply opN; repeat' (first | apply OpAt.z | apply OpAt.s)) (by rfl) (by rfl) (fun _ W hS => op_asg rfl rfl) ?_
    simp only [Act.put, List.setIfInBounds_toArray, List.set_cons_zero, List.set_cons_succ]
    refine k_nil ?_
    intro W hC hK
    have hKH := hide hK
    have hCH := hide hC
    clear hC hK
    go_wp2
    exact bodyPost_ret (results_tmp2 rfl _ _ _) rfl ⟨b, rfl, ⟨g2, g1, hKH.out⟩, hCH.out⟩
theorem str_nums (l : List UInt8) : strOfNums (l.map fun u => (u.toNat : Int)) = RW.strOf l := by
  simp [strOfNums, RW.strOf, Function.comp_def]
theorem run_conv (w : World) (vb : Nat) (l : List UInt8) (hv : w.heap[vb]? = some (.cells (RW.byl l).toArray 5 (0, 0))) (i k c : Nat) (h : i + k ≤ l.length) :
    (convert 39 9 (.slice (some ⟨vb, i, none⟩) k c)).run Tryz.prog w = .ok (.string (RW.strOf ((l.drop i).take k))) w := by
  have hlen : (((l.drop i).take k).map fun u => (u.toNat : Int)).length = k := by simp; omega
  have := run_convert_bytes_arg (P := Tryz.prog) w 39 5 Tryz.underlying39 Tryz.underlying5 vb i k c (((l.drop i).take k).map fun u => (u.toNat : Int)) hlen (fun j hj => by
    rw [cellAt hv]
    have h1 : i + j < l.length := by omega
    have h2 : (((l.drop i).take k).map fun u => (u.toNat : Int)).getD j 0 = ((l[i + j].toNat : Nat) : Int) := by
      rw [List.getD_eq_getElem?_getD, List.getElem?_map, List.getElem?_take, if_pos hj, List.getElem?_drop, List.getElem?_eq_getElem h1]
      rfl
    rw [h2, List.getElem?_toArray, RW.byl, List.getElem?_map, List.getElem?_eq_getElem h1]
    rfl) 9 Tryz.underlying9
  rw [str_nums] at this
  exact this
set_option maxRecDepth 10000 in
set_option maxHeartbeats 1000000 in
theorem read_any (B b n db vb : Nat) (pv : Value) (S : RW.Dk) (o k : Int) (w : World) (h : DiskAt w B b n db vb pv S) :
    Calls Tryz.prog 57 #[.pointer (some ⟨b, 0, none⟩), .int .i64 o, .int .i64 k] w fun e w' => e = .returned (.tuple #[.string (S.read n o k).1, .int .i64 (S.read n o k).2]) ∧ w = w' := by
  have hC := hide (check_any b S.off S.left _ _ pv w h.row)
  have hI := hide (inside_any b S.off S.left (some ⟨db, 0, none⟩) n n _ pv o k w h.row h.hn)
  have c3 : w.cell? ⟨b, 3, none⟩ = some (.slice (some ⟨vb, 0, none⟩) n n) := cellAt h.row 3
  have hH := hide h
  obtain ⟨r, hr⟩ : ∃ r, r = S.read n o k := ⟨_, rfl⟩
  rw [← hr]
  rw [RW.Dk.read] at hr
  cases hoff : S.off
  · rw [hoff, if_neg Bool.false_ne_true] at hr
    rw [hoff] at hC
    cases hin : RW.insB n o k
    · rw [hin] at hI
      rw [hin, if_neg Bool.false_ne_true] at hr
      have hrH := hide hr
      clear hr h hoff hin
      go_enter Tryz.func57, Tryz.ntmps57
      go_wp2_with (first
        | (go_at_call 51; refine hC.out.mono ?_; rintro e w' ⟨rfl, rfl⟩)
        | (go_at_call 52; refine hI.out.mono ?_; rintro e w' ⟨rfl, rfl⟩))
      exact bodyPost_ret (results_tmp2 rfl _ _ _) rfl ⟨by rw [hrH.out] <;> rfl, rfl⟩
    · obtain ⟨i1, i2, i3, i4⟩ := (RW.insB_iff n o k).1 hin
      rw [hin] at hI
      rw [hin, if_pos rfl] at hr
      obtain ⟨i, rfl⟩ : ∃ i : Nat, o = i := ⟨o.toNat, by omega⟩
      obtain ⟨j, rfl⟩ : ∃ j : Nat, k = j := ⟨k.toNat, by omega⟩
      rw [Int.toNat_natCast, Int.toNat_natCast] at hr
      have hi : i ≤ n := by omega
      have hij : j ≤ n - i := by omega
      obtain ⟨X, hX⟩ : ∃ X, X = RW.strOf ((S.vis.drop i).take j) := ⟨_, rfl⟩
      rw [← hX] at hr
      have hrH := hide hr
      have hji : ¬ n - i < j := by omega
      by_cases hni : n = i
      · have hj0 : j = 0 := by omega
        subst hni hj0
        have hcv := run_conv w vb S.vis h.vis 0 0 0 (by omega)
        rw [show RW.strOf ((S.vis.drop 0).take 0) = X by rw [hX]; simp] at hcv
        clear hr h hoff hin hX
        go_enter Tryz.func57, Tryz.ntmps57
        go_wp2_with (first
          | (go_at_call 51; refine hC.out.mono ?_; rintro e w' ⟨rfl, rfl⟩)
          | (go_at_call 52; refine hI.out.mono ?_; rintro e w' ⟨rfl, rfl⟩))
        exact bodyPost_ret (results_tmp2 rfl _ _ _) rfl ⟨by rw [hrH.out] <;> rfl, rfl⟩
      · have hcv := run_conv w vb S.vis h.vis i j (n - i) (by rw [h.lv]; omega)
        rw [← hX] at hcv
        clear hr h hoff hin hX
        go_enter Tryz.func57, Tryz.ntmps57
        go_wp2_with (first
          | (go_at_call 51; refine hC.out.mono ?_; rintro e w' ⟨rfl, rfl⟩)
          | (go_at_call 52; refine hI.out.mono ?_; rintro e w' ⟨rfl, rfl⟩))
        exact bodyPost_ret (results_tmp2 rfl _ _ _) rfl ⟨by rw [hrH.out] <;> rfl, rfl⟩
  · rw [hoff, if_pos rfl] at hr
    rw [hoff] at hC
    have hrH := hide hr
    clear hr h hoff
    go_enter Tryz.func57, Tryz.ntmps57
    go_wp2_with (go_at_call 51; refine hC.out.mono ?_; rintro e w' ⟨rfl, rfl⟩)
    exact bodyPost_ret (results_tmp2 rfl _ _ _) rfl ⟨by rw [hrH.out] <;> rfl, rfl⟩
end Go.Proofs.YtllbphanfahkkaaGreatDoor

/-
  Package disk: Write: what it returns, what it changes.
-/
namespace Go.Proofs.YtllbphanfahkkaaGreatDoor
open Go.RowKit RG
theorem ldRow_write (x : Value) : Instr.loadAt 103 x = ldRow 103 x := rfl
theorem write_ld {W : World} {g o : Nat} {x : Nat × ByteArray} (h : W.rangeAt g o (RW.wrl x)) : (ldRow 103 (.pointer (some ⟨g, o, none⟩))).run Tryz.prog W = .ok (.agg (RW.wrl x).toArray) W :=
  ldRow_mid (fun j u hj => h j u (by simpa using hj)) Tryz.underlying103 rfl (write_size x)
theorem write_ldAt {W : World} {g : Nat} {x : Nat × ByteArray} (h : W.heap[g]? = some (.cells (RW.wrl x).toArray 103 (0, 0))) : (ldRow 103 (.pointer (some ⟨g, 0, none⟩))).run Tryz.prog W = .ok (.agg (RW.wrl x).toArray) W :=
  ldRow_mid (fun j u hj => by rw [cellAt h, Nat.zero_add]; simpa using hj) Tryz.underlying103 rfl (write_size x)
section
variable {ev : Operand → Value} {o : Oper} {x y : Operand} {w : World}
theorem op_load_w {b i : Nat} {v : Value} (ho : o.op = .load 103 x) (hx : ev x = .pointer (some ⟨b, i, none⟩)) (hv : (ldRow 103 (.pointer (some ⟨b, i, none⟩))).run Tryz.prog w = .ok v w) : (execOp ev o).run Tryz.prog w = .ok (.value v) w := by
  have h1 : (Instr.loadAt 103 (.pointer (some ⟨b, i, none⟩))).run Tryz.prog w = .ok v w := hv
  unfold execOp
  rw [ho]
  simp only [hx, Sem.run_bind, h1, Result.andThen_ok, Sem.run_pure]
theorem op_bs_w {q : Nat × ByteArray} (ho : o.op = .buildSlice 104 1 #[(0, x)]) (hx : ev x = .agg (RW.wrl q).toArray) : (execOp ev o).run Tryz.prog w = .ok (.value (.slice (some ⟨w.heap.size, 0, none⟩) 1 1)) (w.alloc (.cells (RW.wrl q).toArray 103)) := by
  have hl := wrl_len q
  unfold execOp
  rw [ho]
  go_simp
  rfl
theorem op_store_ws {b i : Nat} {p : Option Addr} {n c : Nat} {u : Value} (ho : o.op = .store 104 x y) (hx : ev x = .pointer (some ⟨b, i, none⟩)) (hy : ev y = .slice p n c) (hc : w.cell? ⟨b, i, none⟩ = some u) (hf : w.frozen? ⟨b, i, none⟩ = false) :
    (execOp ev o).run Tryz.prog w = .ok .skip (w.setCell ⟨b, i, none⟩ (.slice p n c)) := by
  unfold execOp
  rw [ho]
  simp only [hx, hy]
  go_simp
end
theorem write_info : (Tryz.prog.info? 103).map (fun i => (i.zero, i.size, i.bytes)) = some (some (.agg #[.int .i64 0, .string ⟨#[]⟩]), 2, 24) := by kernel_rfl
/-- a disk, a write appended that its struct does not yet hold -/
structure DiskApp (W : World) (B b n db vb : Nat) (pv u : Value) (S : RW.Dk) (l : List (Nat × ByteArray)) : Prop where
  row : W.heap[b]? = some (.cells (RW.dkl S.off (S.left : Int) (.slice (some ⟨db, 0, none⟩) n n) (.slice (some ⟨vb, 0, none⟩) n n) pv) 108 (0, 0))
  dur : W.heap[db]? = some (.cells (RW.byl S.dur).toArray 5 (0, 0))
  vis : W.heap[vb]? = some (.cells (RW.byl S.vis).toArray 5 (0, 0))
  pend : W.ownsRow B 103 2 u l.length (rowCells RW.wrl l)
theorem diskApp {W0 W W' : World} {B b n db vb : Nat} {pv u : Value} {S : RW.Dk} {l : List (Nat × ByteArray)} (h : DiskAt W B b n db vb pv S) (hg : W.grownBy W' pv.ownBlock) (ho : W'.ownsRow B 103 2 u l.length (rowCells RW.wrl l)) (hT : Tch b db vb W0 W) :
    DiskApp W' B b n db vb pv u S l ∧ Tch b db vb W0 W' := by
  obtain ⟨a1, a2, a3⟩ := h.apart
  obtain ⟨l1, l2, l3⟩ := h.lt
  refine ⟨⟨(hg.block b l1 fun e => (a3 b e.symm).1 rfl).trans h.row, (hg.block db l2 fun e => (a3 db e.symm).2.1 rfl).trans h.dur, (hg.block vb l3 fun e => (a3 vb e.symm).2.2 rfl).trans h.vis, ho⟩, hT.trans ⟨hg.os, hg.tape, hg.output, hg.size, fun k hk _ _ _ h4 => hg.block k hk fun e => ?_⟩⟩
  rcases h.pend.2 with ⟨rfl, _⟩ | ⟨g, cap, cur, rfl, _, hh, _⟩
  · cases e
  · cases e
    exact h4 _ _ hh
theorem DiskApp.put {W0 W : World} {B b n db vb : Nat} {pv u : Value} {S : RW.Dk} {l : List (Nat × ByteArray)} (h : DiskApp W B b n db vb pv u S l) (hb : B ≤ b) (hd : B ≤ db) (hv : B ≤ vb) (hne : db ≠ vb) (ld : S.dur.length = n) (lv : S.vis.length = n) (hn : n ≤ 4194304) (lf : (S.left : Int) ≤ 9223372036854775807)
    (hT : Tch b db vb W0 W) : DiskAt (W.setCell ⟨b, 4, none⟩ u) B b n db vb u ⟨S.off, S.left, S.dur, S.vis, l⟩ ∧ Tch b db vb W0 (W.setCell ⟨b, 4, none⟩ u) := by
  have h1 : b ≠ db := blocks_ne h.row h.dur (by decide)
  have h2 : b ≠ vb := blocks_ne h.row h.vis (by decide)
  refine ⟨⟨(heap_setCell_same _ _ _ _ _ _ h.row).trans rfl, (Below.heap_setCell _ _ _ _ (Ne.symm h1)).trans h.dur, (Below.heap_setCell _ _ _ _ (Ne.symm h2)).trans h.vis, own_keep h.pend fun g hg => ?_, hb, hd, hv, hne, ld, lv, hn, lf⟩, hT.trans ⟨rfl, rfl, rfl, by simp, fun k _ hk _ _ _ => Below.heap_setCell _ _ _ _ hk⟩⟩
  refine Below.heap_setCell _ _ _ _ ?_
  rcases h.pend.2 with ⟨rfl, _⟩ | ⟨g', cap, cur, rfl, _, h3, _⟩
  · cases hg
  · cases hg
    exact blocks_ne h3 h.row (by decide)
theorem used_le {off : Bool} {left : Nat} (h : (left : Int) ≤ 9223372036854775807) : ((RW.used off left).2 : Int) ≤ 9223372036854775807 := by
  unfold RW.used
  split
  · exact h
  · show ((left - 1 : Nat) : Int) ≤ _
    omega
theorem DiskAt.visChg {W W' : World} {B b n db vb : Nat} {pv : Value} {S : RW.Dk} {l : List UInt8} (h : DiskAt W B b n db vb pv S) (h1 : W'.heap[vb]? = some (.cells (RW.byl l).toArray 5 (0, 0))) (h2 : Chg vb W W') (hl : l.length = n) :
    DiskAt W' B b n db vb pv ⟨S.off, S.left, S.dur, l, S.pend⟩ ∧ Tch b db vb W W' ∧ Below B W W' := by
  obtain ⟨a1, a2, a3⟩ := h.apart
  obtain ⟨l1, l2, l3⟩ := h.lt
  exact ⟨⟨(h2.block b l1 a2).trans h.row, (h2.block db l2 h.ne).trans h.dur, h1, own_keep h.pend fun g hg => h2.block g (h.pend.lt g hg).2 (a3 g hg).2.2, h.hb, h.hd, h.hv, h.ne, h.ld, hl, h.hn, h.lf⟩, ⟨h2.os, h2.tape, h2.output, h2.size, fun k hk _ _ h3 _ => h2.block k hk h3⟩, h2.below h.hv (Nat.le_trans h.hb (Nat.le_of_lt l1))⟩
theorem DiskAt.durChg {W W' : World} {B b n db vb : Nat} {pv : Value} {S : RW.Dk} {l : List UInt8} (h : DiskAt W B b n db vb pv S) (h1 : W'.heap[db]? = some (.cells (RW.byl l).toArray 5 (0, 0))) (h2 : Chg db W W') (hl : l.length = n) :
    DiskAt W' B b n db vb pv ⟨S.off, S.left, l, S.vis, S.pend⟩ ∧ Tch b db vb W W' ∧ Below B W W' := by
  obtain ⟨a1, a2, a3⟩ := h.apart
  obtain ⟨l1, l2, l3⟩ := h.lt
  exact ⟨⟨(h2.block b l1 a1).trans h.row, h1, (h2.block vb l3 (Ne.symm h.ne)).trans h.vis, own_keep h.pend fun g hg => h2.block g (h.pend.lt g hg).2 (a3 g hg).2.1, h.hb, h.hd, h.hv, h.ne, hl, h.lv, h.hn, h.lf⟩, ⟨h2.os, h2.tape, h2.output, h2.size, fun k hk _ h3 _ _ => h2.block k hk h3⟩, h2.below h.hd (Nat.le_trans h.hb (Nat.le_of_lt l1))⟩
theorem DiskAt.rowChg {W W' : World} {B b n db vb : Nat} {pv : Value} {S : RW.Dk} {off : Bool} {left : Nat} (h : DiskAt W B b n db vb pv S) (h1 : W'.heap[b]? = some (.cells (RW.dkl off (left : Int) (.slice (some ⟨db, 0, none⟩) n n) (.slice (some ⟨vb, 0, none⟩) n n) pv) 108 (0, 0))) (h2 : Chg b W W') (hl : (left : Int) ≤ 9223372036854775807) :
    DiskAt W' B b n db vb pv ⟨off, left, S.dur, S.vis, S.pend⟩ ∧ Tch b db vb W W' ∧ Below B W W' := by
  obtain ⟨a1, a2, a3⟩ := h.apart
  obtain ⟨l1, l2, l3⟩ := h.lt
  exact ⟨⟨h1, (h2.block db l2 (Ne.symm a1)).trans h.dur, (h2.block vb l3 (Ne.symm a2)).trans h.vis, own_keep h.pend fun g hg => h2.block g (h.pend.lt g hg).2 (a3 g hg).1, h.hb, h.hd, h.hv, h.ne, h.ld, h.lv, h.hn, hl⟩, ⟨h2.os, h2.tape, h2.output, h2.size, fun k hk h3 _ _ _ => h2.block k hk h3⟩, h2.below h.hb (Nat.le_trans h.hb (Nat.le_of_lt l1))⟩
set_option maxRecDepth 10000 in
set_option maxHeartbeats 1000000 in
theorem write_any (B b n db vb : Nat) (pv : Value) (S : RW.Dk) (o : Int) (s : ByteArray) (w : World) (h : DiskAt w B b n db vb pv S) (hp : S.pend.length < 1000000) (hs : s.size ≤ 9223372036854775807) :
    Calls Tryz.prog 14 #[.pointer (some ⟨b, 0, none⟩), .int .i64 o, .string s] w fun e w' => e = .returned (.int .i64 (S.write n o s).1) ∧ ∃ pv', DiskAt w' B b n db vb pv' (S.write n o s).2 ∧ Tch b db vb w w' ∧ Below B w w' := by
  have hC := hide (check_any b S.off S.left _ _ pv w h.row)
  have hI := hide (inside_any b S.off S.left (some ⟨db, 0, none⟩) n n _ pv o (s.size : Int) w h.row h.hn)
  have hH := hide h
  obtain ⟨r, hr⟩ : ∃ r, r = S.write n o s := ⟨_, rfl⟩
  rw [← hr]
  rw [RW.Dk.write] at hr
  cases hoff : S.off
  · rw [hoff, if_neg Bool.false_ne_true] at hr
    rw [hoff] at hC
    cases hin : RW.insB n o (s.size : Int)
    · rw [hin] at hI
      rw [hin, if_neg Bool.false_ne_true] at hr
      have hrH := hide hr
      clear hr h hoff hin
      go_enter Tryz.func14, Tryz.ntmps14
      go_wp2_with (first
        | (go_at_call 51; refine hC.out.mono ?_; rintro e w' ⟨rfl, rfl⟩)
        | (go_at_call 52; refine hI.out.mono ?_; rintro e w' ⟨rfl, rfl⟩))
      go_ret
      exact ⟨by rw [hrH.out] <;> rfl, pv, by rw [hrH.out]; exact hH.out, Tch.refl _ _ _ _, Below.refl _ _⟩
    · obtain ⟨i1, i2, i3, i4⟩ := (RW.insB_iff n o _).1 hin
      rw [hin] at hI
      rw [hin, if_pos rfl] at hr
      obtain ⟨i, rfl⟩ : ∃ i : Nat, o = i := ⟨o.toNat, by omega⟩
      rw [Int.toNat_natCast] at hr
      have hi := hide (show i + s.size ≤ n by omega)
      have hrH := hide hr
      have hoffH := hide hoff
      obtain ⟨ap, cp, rfl⟩ := h.form
      obtain ⟨kp, hkp⟩ : ∃ k, k = S.pend.length := ⟨_, rfl⟩
      rw [← hkp] at hH
      obtain ⟨wb, hwb⟩ : ∃ b, b = w.heap.size := ⟨_, rfl⟩
      have hA := hide ((Below.refl w.heap.size w).alloc (Nat.le_refl _) (.cells (RW.wrl (i, s)).toArray 103))
      have hx0 := hide (show (w.alloc (.cells (RW.wrl (i, s)).toArray 103)).heap[wb]? = some (.cells (RW.wrl (i, s)).toArray 103 (0, 0)) from newAt hwb)
      have hwbH := hide hwb
      have hpH := hide hp
      have hbl := hide (show b < wb ∧ db < wb ∧ vb < wb from hwb ▸ h.lt)
      have hle := hide (Nat.le_trans h.hb (Nat.le_of_lt h.lt.1))
      clear hr h hoff hin hkp hwb i1 i2 i3 i4 hp
      go_enter Tryz.func14, Tryz.ntmps14
      go_upto_region 7 with (first
        | (go_at_call 51; refine hC.out.mono ?_; rintro e w' ⟨rfl, rfl⟩)
        | (go_at_call 52; refine hI.out.mono ?_; rintro e w' ⟨rfl, rfl⟩)
        | (refine wpListStoreNew rfl 103 (.tmp 8) (.tmp 22) rfl (RW.wrl (i, s)).toArray rfl rfl 103 _ (write_size _) rfl rfl ?_))
      rw [← hwbH.out]
      refine gen_w (fun W => W.heap[wb]? = some (.cells (RW.wrl (i, s)).toArray 103 (0, 0)) ∧ DiskAt W B b n db vb (.slice ap kp cp) S ∧ Tch b db vb w W ∧ Below B w W) ⟨hx0.out, hH.out.next hA.out, Tch.of_below hA.out, hA.out.mono hle.out⟩ ?_
      rintro w1 ⟨g1, g2, g3, g4⟩
      have hx1 := hide g1
      have hd1 := hide g2
      have ht1 := hide g3
      have hb1 := hide g4
      clear g1 g2 g3 g4 hx0 hA hC hI
      refine wp_region_k (fun g W => W.heap[wb]? = some (.cells (RW.wrl (i, s)).toArray 103 (0, 0)) ∧ (10 ∉ g → W.heap[b]? = some (.cells (RW.dkl S.off (S.left : Int) (.slice (some ⟨db, 0, none⟩) n n) (.slice (some ⟨vb, 0, none⟩) n n) (.slice ap kp cp)) 108 (0, 0)))) (fun W => DiskAt W B b n db vb (.slice ap kp cp) S ∧ Tch b db vb w W ∧ Below B w W) [6, 7, 10] (.op 0 (.op 1 (.op 2 (.op 3 (.op 4 (.op 5 (.op 6 (.op 7 (.op 8 (.op 9 (.op 10 .nil))))))))))) (by kernel_rfl) (by kernel_rfl) (by rfl) (by kernel_rfl) ⟨hx1.out, fun _ => hd1.out.row⟩ ⟨hd1.out.next (Below.refl _ _).drew, ht1.out.trans (Tch.of_below (Below.refl _ _).drew), hb1.out.trans (Below.refl _ _).drew⟩ ?_
      refine k_val (.pointer (some ⟨b, 0, none⟩)) (by apply opN; repeat' (first | apply OpAt.z | apply OpAt.s)) (by rfl) (by rfl) (fun _ W hS => op_mv rfl rfl) ?_
      simp only [Act.put, List.setIfInBounds_toArray, List.set_cons_zero, List.set_cons_succ]
      refine k_val (.pointer (some ⟨b, 0, none⟩)) (by apply opN; repeat' (first | apply OpAt.z | apply OpAt.s)) (by rfl) (by rfl) (fun _ W hS => op_mv rfl rfl) ?_
      simp only [Act.put, List.setIfInBounds_toArray, List.set_cons_zero, List.set_cons_succ]
      refine k_val (.pointer (some ⟨b, 0, none⟩)) (by apply opN; repeat' (first | apply OpAt.z | apply OpAt.s)) (by rfl) (by rfl) (fun _ W hS => op_nc rfl rfl) ?_
      simp only [Act.put, List.setIfInBounds_toArray, List.set_cons_zero, List.set_cons_succ]
      refine k_val (.pointer (some ⟨b, 4, none⟩)) (by apply opN; repeat' (first | apply OpAt.z | apply OpAt.s)) (by rfl) (by rfl) (fun _ W hS => op_fa_d (i := 3) (by decide) rfl rfl rfl) ?_
      simp only [Act.put, List.setIfInBounds_toArray, List.set_cons_zero, List.set_cons_succ]
      refine k_bef 10 (.slice ap kp cp) (by apply opN; repeat' (first | apply OpAt.z | apply OpAt.s)) (by rfl) (by rfl) (by decide +kernel) (by rfl) (fun g W hg hS => op_load_ws rfl rfl (cellAt (hS.2 hg) 4)) ?_
      simp only [Act.put, List.setIfInBounds_toArray, List.set_cons_zero, List.set_cons_succ]
      refine k_val (.agg (RW.wrl (i, s)).toArray) (by apply opN; repeat' (first | apply OpAt.z | apply OpAt.s)) (by rfl) (by rfl) (fun _ W hS => op_load_w rfl rfl (write_ldAt hS.1)) ?_
      simp only [Act.put, List.setIfInBounds_toArray, List.set_cons_zero, List.set_cons_succ]
      refine k_step (fun K' u => ∃ g, u = .slice (some ⟨g, 0, none⟩) 1 1 ∧ K' = fun W => (DiskAt W B b n db vb (.slice ap kp cp) S ∧ Tch b db vb w W ∧ Below B w W) ∧ RowV 2 RW.wrl W u [(i, s)]) (by apply opN; repeat' (first | apply OpAt.z | apply OpAt.s)) (by rfl) (by rfl) (by rfl) (fun W hC hK => ?_) ?_
      · rw [op_bs_w rfl rfl]
        have hA := (Below.refl W.heap.size W).alloc (Nat.le_refl _) (.cells (RW.wrl (i, s)).toArray 103)
        have hl : RowV 2 RW.wrl (W.alloc (.cells (rowCells RW.wrl [(i, s)]).toArray 103)) (.slice (some ⟨W.heap.size, 0, none⟩) 1 1) [(i, s)] := rows_lit W 103 wrl_len [(i, s)]
        rw [show rowCells RW.wrl [(i, s)] = RW.wrl (i, s) by rw [rowCells, List.flatMap_cons, List.flatMap_nil, List.append_nil]] at hl
        exact ⟨⟨(hA.block _ (Array.getElem?_eq_some_iff.1 hC.1).1).trans hC.1, fun _ => (hK.1.next hA).row⟩, _, ⟨⟨hK.1.next hA, hK.2.1.trans (Tch.of_below hA), hK.2.2.trans (hA.mono (Nat.le_trans hK.1.hb (Nat.le_of_lt hK.1.lt.1)))⟩, hl⟩, W.heap.size, rfl, rfl⟩
      rintro _ _ ⟨g6, rfl, rfl⟩
      simp only [Act.put, List.setIfInBounds_toArray, List.set_cons_zero, List.set_cons_succ]
      refine k_step (fun K' u => ∃ a k c, u = .slice a k c ∧ K' = fun W => DiskApp W B b n db vb (.slice ap kp cp) u S (S.pend ++ [(i, s)]) ∧ Tch b db vb w W ∧ Below B w W) (by apply opN; repeat' (first | apply OpAt.z | apply OpAt.s)) (by rfl) (by rfl) (by rfl) (fun W hC hK => ?_) ?_
      · obtain ⟨v', W', h1, h2, h3, h4⟩ := run_app_rows (P := Tryz.prog) 104 Tryz.underlying104 write_info (by rfl) (by decide) wrl_len wrl_one hK.1.1.pend (Nat.le_trans hK.1.1.hb (Nat.le_of_lt hK.1.1.lt.1)) hK.2 (by have := hpH.out; unfold maxLen; simp; omega) (by have := hpH.out; simp; omega)
        obtain ⟨a, c, rfl⟩ : ∃ a c, v' = .slice a (S.pend ++ [(i, s)]).length c := by
          rcases h2.2 with ⟨rfl, h0⟩ | ⟨g, cap, cur, rfl, _⟩
          · exact ⟨none, 0, by rw [h0]⟩
          · exact ⟨_, _, rfl⟩
        obtain ⟨k1, k2⟩ := diskApp hK.1.1 h4 h2 hK.1.2.1
        rw [op_app rfl rfl rfl h1]
        refine ⟨⟨?_, fun _ => k1.row⟩, _, ⟨k1, k2, hK.1.2.2.trans h3⟩, a, _, c, rfl, rfl⟩
        refine (h4.block wb (Array.getElem?_eq_some_iff.1 hC.1).1 fun e => ?_).trans hC.1
        exact absurd (hH.out.pend.lt wb e.symm).2 (by rw [← hwbH.out]; exact Nat.lt_irrefl _)
      rintro _ _ ⟨a7, k7, c7, rfl, rfl⟩
      simp only [Act.put, List.setIfInBounds_toArray, List.set_cons_zero, List.set_cons_succ]
      refine k_val (.pointer (some ⟨b, 0, none⟩)) (by apply opN; repeat' (first | apply OpAt.z | apply OpAt.s)) (by rfl) (by rfl) (fun _ W hS => op_nc rfl rfl) ?_
      simp only [Act.put, List.setIfInBounds_toArray, List.set_cons_zero, List.set_cons_succ]
      refine k_val (.pointer (some ⟨b, 4, none⟩)) (by apply opN; repeat' (first | apply OpAt.z | apply OpAt.s)) (by rfl) (by rfl) (fun _ W hS => op_fa_d (i := 3) (by decide) rfl rfl rfl) ?_
      simp only [Act.put, List.setIfInBounds_toArray, List.set_cons_zero, List.set_cons_succ]
      refine k_step (fun K' u => u = undef ∧ K' = fun W => DiskAt W B b n db vb (.slice a7 k7 c7) ⟨S.off, S.left, S.dur, S.vis, S.pend ++ [(i, s)]⟩ ∧ Tch b db vb w W ∧ Below B w W) (by apply opN; repeat' (first | apply OpAt.z | apply OpAt.s)) (by rfl) (by rfl) (by rfl) (fun W hC hK => ?_) ?_
      · rw [op_store_ws rfl rfl rfl (cellAt hK.1.row 4) (by simp [World.frozen?, hK.1.row])]
        obtain ⟨k1, k2⟩ := hK.1.put hH.out.hb hH.out.hd hH.out.hv hH.out.ne hH.out.ld hH.out.lv hH.out.hn hH.out.lf hK.2.1
        exact ⟨⟨(Below.heap_setCell _ _ _ _ (by show wb ≠ b; exact Ne.symm (Nat.ne_of_lt hbl.out.1))).trans hC.1, fun h => absurd (by simp) h⟩, _, ⟨k1, k2, hK.2.2.setCell (p := ⟨b, 4, none⟩) hH.out.hb _⟩, rfl, rfl⟩
      rintro _ _ ⟨rfl, rfl⟩
      simp only [Act.put]
      refine k_nil ?_
      intro W hC hK
      have hx2 := hide hC.1
      have hK2 := hide hK
      clear hC hK hd1 ht1 hb1 hx1
      go_upto_region 8 with fail
      have hOn := hide (fun W (h : DiskAt W B b n db vb (.slice a7 k7 c7) ⟨S.off, S.left, S.dur, S.vis, S.pend ++ [(i, s)]⟩) => onto_any i s vb n S.vis W h.vis h.lv hi.out h.hn)
      refine wp_region_k (fun _ W => W.heap[wb]? = some (.cells (RW.wrl (i, s)).toArray 103 (0, 0)) ∧ W.heap[b]? = some (.cells (RW.dkl S.off (S.left : Int) (.slice (some ⟨db, 0, none⟩) n n) (.slice (some ⟨vb, 0, none⟩) n n) (.slice a7 k7 c7)) 108 (0, 0))) (fun W => DiskAt W B b n db vb (.slice a7 k7 c7) ⟨S.off, S.left, S.dur, S.vis, S.pend ++ [(i, s)]⟩ ∧ Tch b db vb w W ∧ Below B w W) [5] (.op 0 (.op 1 (.op 2 (.op 3 (.op 4 (.op 5 .nil)))))) (by kernel_rfl) (by kernel_rfl) (by rfl) (by kernel_rfl) ⟨hx2.out, hK2.out.1.row⟩ ⟨hK2.out.1.next (Below.refl _ _).drew, hK2.out.2.1.trans (Tch.of_below (Below.refl _ _).drew), hK2.out.2.2.trans (Below.refl _ _).drew⟩ ?_
      refine k_val (.agg (RW.wrl (i, s)).toArray) (by apply opN; repeat' (first | apply OpAt.z | apply OpAt.s)) (by rfl) (by rfl) (fun _ W hS => op_load_w rfl rfl (write_ldAt hS.1)) ?_
      simp only [Act.put, List.setIfInBounds_toArray, List.set_cons_zero, List.set_cons_succ]
      refine k_val (.pointer (some ⟨b, 0, none⟩)) (by apply opN; repeat' (first | apply OpAt.z | apply OpAt.s)) (by rfl) (by rfl) (fun _ W hS => op_mv rfl rfl) ?_
      simp only [Act.put, List.setIfInBounds_toArray, List.set_cons_zero, List.set_cons_succ]
      refine k_val (.pointer (some ⟨b, 0, none⟩)) (by apply opN; repeat' (first | apply OpAt.z | apply OpAt.s)) (by rfl) (by rfl) (fun _ W hS => op_nc rfl rfl) ?_
      simp only [Act.put, List.setIfInBounds_toArray, List.set_cons_zero, List.set_cons_succ]
      refine k_val (.pointer (some ⟨b, 3, none⟩)) (by apply opN; repeat' (first | apply OpAt.z | apply OpAt.s)) (by rfl) (by rfl) (fun _ W hS => op_fa_d (i := 2) (by decide) rfl rfl rfl) ?_
      simp only [Act.put, List.setIfInBounds_toArray, List.set_cons_zero, List.set_cons_succ]
      refine k_val (.slice (some ⟨vb, 0, none⟩) n n) (by apply opN; repeat' (first | apply OpAt.z | apply OpAt.s)) (by rfl) (by rfl) (fun _ W hS => op_load_by rfl rfl (cellAt hS.2 3)) ?_
      simp only [Act.put, List.setIfInBounds_toArray, List.set_cons_zero, List.set_cons_succ]
      refine k_step (fun K' u => K' = fun W => DiskAt W B b n db vb (.slice a7 k7 c7) ⟨S.off, S.left, S.dur, RW.lay S.vis i s.data.toList, S.pend ++ [(i, s)]⟩ ∧ Tch b db vb w W ∧ Below B w W) (by apply opN; repeat' (first | apply OpAt.z | apply OpAt.s)) (by rfl) (by rfl) (by rfl) (fun W hC hK => ?_) ?_
      · refine op_x2 rfl rfl rfl rfl (fun _ _ => rfl) ((hOn.out W hK.1).mono ?_)
        rintro e W' ⟨⟨v, rfl⟩, h1, h2⟩
        obtain ⟨k1, k2, k3⟩ := hK.1.visChg h1 h2 (by rw [lay_len (by rw [hK.1.lv, Array.length_toList]; exact hi.out)]; exact hK.1.lv)
        exact ⟨_, rfl, ⟨(h2.block wb (Array.getElem?_eq_some_iff.1 hC.1).1 (Ne.symm (Nat.ne_of_lt hbl.out.2.2))).trans hC.1, k1.row⟩, _, ⟨k1, hK.2.1.trans k2, hK.2.2.trans k3⟩, rfl⟩
      rintro _ _ rfl
      simp only [Act.put, List.setIfInBounds_toArray, List.set_cons_zero, List.set_cons_succ]
      refine k_nil ?_
      intro W hC hK
      have hK3 := hide hK
      have hUs := hide (used_any b S.off S.left _ _ (.slice a7 k7 c7) W hK.1.lf hK.1.row)
      clear hC hK hOn hK2 hx2
      go_wp2_with (go_at_call 54; refine hUs.out.mono ?_; rintro e w9 ⟨⟨v9, rfl⟩, h1, h2⟩; have h1H := hide h1; have h2H := hide h2; clear h1 h2)
      go_ret
      obtain ⟨k1, k2, k3⟩ := hK3.out.1.rowChg h1H.out h2H.out (used_le hK3.out.1.lf)
      exact ⟨by rw [hrH.out] <;> rfl, .slice a7 k7 c7, by rw [hrH.out, ← hoffH.out]; exact k1, hK3.out.2.1.trans k2, hK3.out.2.2.trans k3⟩
  · rw [hoff, if_pos rfl] at hr
    rw [hoff] at hC
    have hrH := hide hr
    clear hr h hoff
    go_enter Tryz.func14, Tryz.ntmps14
    go_wp2_with (go_at_call 51; refine hC.out.mono ?_; rintro e w' ⟨rfl, rfl⟩)
    go_ret
    exact ⟨by rw [hrH.out] <;> rfl, pv, by rw [hrH.out]; exact hH.out, Tch.refl _ _ _ _, Below.refl _ _⟩
end Go.Proofs.YtllbphanfahkkaaGreatDoor

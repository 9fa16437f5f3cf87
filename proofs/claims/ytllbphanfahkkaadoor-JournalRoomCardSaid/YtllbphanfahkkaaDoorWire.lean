/-
  The walks of package wire: Int, String, PutInt (in range): what each returns; the world as it was, or below its first new block as it was.
-/
import Derived.Test.YtllbphanfahkkaaDoorProg
import Derived.Test.YtllbphanfahkkaaDoorWireP
namespace Go.Proofs.YtllbphanfahkkaaDoor
open Go.RowKit Go.Shelf
attribute [local go_sem] Oper.semAt_some
def intRes (at_ : Nat) : Option (Int × Nat) → Value
  | none => .tuple #[.int .i64 0, .int .i64 0, .int .i64 10]
  | some (n, k) => .tuple #[.int .i64 n, .int .i64 (at_ + k : Nat), .int .i64 0]
theorem intRes_none (a : Nat) : Ending.returned (.tuple #[.int .i64 0, .int .i64 0, .int .i64 10]) = .returned (intRes a none) := rfl
theorem intRes_some (a k : Nat) (n : Int) : Ending.returned (.tuple #[.int .i64 n, .int .i64 ((a : Int) + k + 1), .int .i64 0]) = .returned (intRes a (some (n, k + 1))) := rfl
set_option maxRecDepth 10000 in
set_option maxHeartbeats 1000000 in
theorem int_walk (s : ByteArray) (at_ : Nat) (w : World) (hs : s.size ≤ 9223372036854775807) (ha : at_ ≤ s.size) :
    Calls Tryd.prog 66 #[.string s, .int .i64 at_] w fun e w' =>
      e = .returned (intRes at_ (RW.decI (s.data.toList.drop at_))) ∧ w = w' := by
  have h0 : ¬ (at_ : Int) < 0 := by omega
  have h1 : ¬ s.size < at_ := by omega
  go_enter Tryd.func66, Tryd.ntmps66
  go_wp2
  go_loop [7, 19] (fun v c => ∃ k z : Nat, k ≤ 9 ∧ at_ + k ≤ s.size ∧ v = .int .u64 z ∧ c = .int .i64 k ∧ z < 2 ^ (7 * k) ∧ Hid (RW.decG (9 - k) k z (s.data.toList.drop (at_ + k)) = RW.decI (s.data.toList.drop at_))) (fun _ c => 9 - (intOf c).toNat)
  case atStart => exact ⟨0, 0, by omega, by omega, rfl, rfl, by omega, rfl⟩
  case round =>
    obtain ⟨k, z, hk, hak, rfl, rfl, hz, hd⟩ := hrel
    by_cases hk9 : k < 9
    · by_cases hin : at_ + k < s.size
      · have hb := s[at_ + k].toNat_lt
        have hor := RW.or_step k z s[at_ + k].toNat hk9 hz hb
        have hzb := RW.pow_step k z s[at_ + k].toNat hz
        have hp := RW.pow9 (k + 1) (by omega)
        have hst := RW.decG_cons (8 - k) k z s[at_ + k] (s.data.toList.drop (at_ + k + 1))
        rw [← RW.drop_cons s (at_ + k) hin, show 8 - k + 1 = 9 - k by omega, Hid.out hd] at hst
        clear hd
        generalize z + (s[at_ + k].toNat % 128) * 2 ^ (7 * k) = z' at hor hzb hst
        have hx := RW.uz_bits z' (by omega)
        have hxb := RW.uz_bd z' (by omega)
        have hstH := hide hst
        clear hst hp
        go_wp2
        · go_round
          case rel => exact ⟨k + 1, z', by omega, by omega, rfl, by go_num, hzb, by rw [show 9 - (k + 1) = 8 - k by omega]; exact (hstH.out.trans (if_pos (by omega))).symm⟩
          case measure => simp [intOf]; omega
        all_goals
          go_ret3
          refine ⟨?_, rfl⟩
          rw [hstH.out, if_neg (by omega)]
        · rw [if_pos (by unfold RW.maxI; omega)]; rfl
        · rw [if_neg (by unfold RW.maxI; omega)]; obtain rfl : k = 0 := by assumption
          exact intRes_some _ 0 _
        · rw [if_pos (by unfold RW.maxI; omega)]; rfl
        · rw [if_pos (by unfold RW.maxI; omega)]; rfl
        · rw [if_neg (by unfold RW.maxI; omega)]; exact intRes_some _ _ _
      · go_wp2
        go_ret3
        exact ⟨by rw [← hd.out, List.drop_eq_nil_of_le (by simp; omega), RW.decG_nil]; rfl, rfl⟩
    · go_wp2
      go_ret3
      exact ⟨by rw [← hd.out, show 9 - k = 0 by omega, RW.decG_zero]; rfl, rfl⟩
def strRes (at_ : Nat) : Option (List UInt8 × Nat) → Value
  | none => .tuple #[.string ⟨#[]⟩, .int .i64 0, .int .i64 10]
  | some (t, k) => .tuple #[.string ⟨t.toArray⟩, .int .i64 (at_ + k : Nat), .int .i64 0]
set_option maxRecDepth 10000 in
set_option maxHeartbeats 1000000 in
theorem str_walk (s : ByteArray) (at_ : Nat) (w : World) (hs : s.size ≤ 9223372036854775807) (ha : at_ ≤ s.size) :
    Calls Tryd.prog 58 #[.string s, .int .i64 at_] w fun e w' =>
      e = .returned (strRes at_ (RW.decS (s.data.toList.drop at_))) ∧ w = w' := by
  have hc := int_walk s at_ w hs ha
  rcases hI : RW.decI (s.data.toList.drop at_) with _ | ⟨n, k⟩
  · rw [hI] at hc
    have hS := hide (RW.decS_none _ hI); clear hI
    have hcH := hide hc; clear hc
    go_enter Tryd.func58, Tryd.ntmps58
    go_wp2_with (go_at_call 66; refine hcH.out.mono ?_; rintro e w' ⟨rfl, rfl⟩; unfold intRes)
    go_ret3
    exact ⟨by rw [hS.out]; rfl, rfl⟩
  · rw [hI] at hc
    have hS := hide (RW.decS_some _ _ _ hI)
    have hk := RW.decI_le _ _ _ hI
    have hn := RW.decI_bd _ _ _ hI
    have hl : (s.data.toList.drop at_).length = s.size - at_ := by simp
    rw [hl] at hk
    have hS2 : Hid (RW.decS (s.data.toList.drop at_) = if n < 0 ∨ 65536 < n ∨ (s.size : Int) - at_ - k < n then none else some (((s.data.toList.drop at_).drop k).take n.toNat, k + n.toNat)) := by
      rw [hS.out, hl]; rw [show ((s.size - at_ : Nat) : Int) = (s.size : Int) - at_ by omega]; exact rfl
    clear hS hI hl
    have hcH := hide hc; clear hc
    by_cases hg : 0 ≤ n ∧ n ≤ 65536 ∧ n ≤ (s.size : Int) - at_ - k
    · obtain ⟨m, rfl⟩ := Int.eq_ofNat_of_zero_le hg.1
      have hg2 : m ≤ 65536 := by omega
      have hg3 : at_ + k + m ≤ s.size := by omega
      clear hg
      have hg4 : (0 : Int) ≤ (at_ : Int) + k := by omega
      have hg5 : (at_ : Int) + k ≤ (at_ : Int) + k + m := by omega
      have hg6 : (at_ : Int) + k + m ≤ (s.size : Int) := by omega
      go_enter Tryd.func58, Tryd.ntmps58
      go_wp2_with (go_at_call 66; refine hcH.out.mono ?_; rintro e w' ⟨rfl, rfl⟩; unfold intRes)
      go_ret3
      refine ⟨?_, rfl⟩
      rw [hS2.out, if_neg (by omega)]
      simp only [strRes, Int.toNat_natCast, List.drop_drop]
      have e := RW.extract_eq s (at_ + k) (at_ + k + m) hg3
      rw [show at_ + k + m - (at_ + k) = m by omega] at e
      rw [← e]
      simp [Int.add_assoc]
    · go_enter Tryd.func58, Tryd.ntmps58
      go_wp2_with (go_at_call 66; refine hcH.out.mono ?_; rintro e w' ⟨rfl, rfl⟩; unfold intRes)
      all_goals
        first
        | (exfalso; omega)
        | (go_ret3
           exact ⟨by rw [hS2.out, if_pos (by omega)]; rfl, rfl⟩)
set_option maxRecDepth 100000 in
set_option maxHeartbeats 1000000 in
theorem groups1 (F : Fence) (n : Nat) (h6 : F.fn 82) (hro : F.round = none) (hn : 1 ≤ n) (l zb : Nat) (J : List (Nat × Bool) → World → Prop)
    (hJ : ∀ pre W v, J pre W → J pre (W.setCell ⟨zb, 0, none⟩ v))
    (hY : ∀ pre (g : Nat) (gi : Int) (b : Bool) W, gi = (g : Int) → g < 128 → pre.length < 10 → J pre W → YieldAt F (n - 1) Tryd.prog l #[.int .u8 gi, .bool b] W fun e W' =>
      e = .returned (.bool true) ∧ J (pre ++ [(g, b)]) W' ∧ W'.cell? ⟨zb, 0, none⟩ = W.cell? ⟨zb, 0, none⟩ ∧ W'.frozen? ⟨zb, 0, none⟩ = W.frozen? ⟨zb, 0, none⟩)
    (z : Nat) (hz : z < 9223372036854775808) (W : World) (hc : W.cell? ⟨zb, 0, none⟩ = some (.int .u64 z)) (hf : W.frozen? ⟨zb, 0, none⟩ = false) (h0 : J [] W) :
    CallsIn F n Tryd.prog 82 #[.func (.yield l) #[] #[], .pointer (some ⟨zb, 0, none⟩)] W fun e W' => (∃ v, e = .returned v) ∧ J (RW.grp 10 z) W' := by
  refine callsIn_of_wp Tryd.func82 rfl h6 ?_ hro
  simp only [Tryd.ntmps82, List.size_toArray, List.length_cons, List.length_nil, Nat.reduceAdd, Nat.reduceSub, Array.replicate_succ, Array.replicate_zero, List.push_toArray, List.append_toArray, List.nil_append, List.cons_append]
  gi_wp2
  gi_loopw [3] (fun (_ : Value) wr => ∃ (f z' : Nat) (pre : List (Nat × Bool)), pre.length + f + 1 ≤ 10 ∧ Hid (pre ++ RW.grp (f + 1) z' = RW.grp 10 z) ∧ z' < 2 ^ (7 * (f + 1)) ∧ z' < 9223372036854775808 ∧ wr.cell? ⟨zb, 0, none⟩ = some (.int .u64 z') ∧ wr.frozen? ⟨zb, 0, none⟩ = false ∧ J pre wr)
    (fun (_ : Value) wr => RW.natOf (wr.cell? ⟨zb, 0, none⟩))
  case atStart => exact ⟨9, z, [], by simp, rfl, by omega, hz, hc, hf, h0⟩
  case round =>
    obtain ⟨f, z', pre, hpl, hg, hzf, hz', hcz, hfz, hJp⟩ := hrel
    have hand := RW.and127 z' (by omega)
    have hm : z' % 128 < 128 := Nat.mod_lt _ (by decide)
    obtain ⟨fn, tmps, assign, body, hy, hR⟩ := hY pre (z' % 128) ((z' : Int) % 128) (decide ((z' : Int) < 128)) wr (by omega) hm (by omega) hJp
    by_cases hlt : z' < 128
    · gi_wp2
      refine hR.mono ?_
      rintro e W3 ⟨rfl, hJ3, hc3, hf3⟩
      gi_wp2
      refine bodyPost_ret (results_none rfl _ _ _) rfl ?_
      refine ⟨⟨_, rfl⟩, ?_⟩
      rw [← hg.out, RW.grp_lo _ _ hlt]
      rw [Nat.mod_eq_of_lt hlt, decide_eq_true (by omega)] at hJ3
      exact hJ3
    · gi_wp2
      refine hR.mono ?_
      rintro e W3 ⟨rfl, hJ3, hc3, hf3⟩
      rw [hcz] at hc3
      rw [hfz] at hf3
      gi_wp2
      go_roundw
      case rel =>
        obtain ⟨f, rfl⟩ : ∃ f', f = f' + 1 := by
          cases f with
          | zero => simp at hzf; omega
          | succ f => exact ⟨f, rfl⟩
        refine ⟨f, z' / 128, pre ++ [(z' % 128, false)], by simp; omega, ?_, ?_, by omega, ?_, ?_, ?_⟩
        · show _ = _
          rw [← hg.out, RW.grp_hi _ _ hlt, List.append_assoc]; rfl
        · have : 2 ^ (7 * (f + 1 + 1)) = 128 * 2 ^ (7 * (f + 1)) := by rw [Nat.mul_add, Nat.pow_add]; omega
          omega
        · rw [World.cell?_setCell_same' _ _ _ (by rw [hc3]; rfl)]; rfl
        · rw [World.frozen?_setCell]; exact hf3
        · rw [decide_eq_false (by omega)] at hJ3
          exact hJ _ _ _ hJ3
      case measure =>
        rw [World.cell?_setCell_same' _ _ _ (by rw [hc3]; rfl), hcz]
        simp [RW.natOf, intOf]; omega
theorem groups_in (F : Fence) (n : Nat) (h7 : F.fn 73) (hro : F.round = none) (z : Int) (w : World) :
    CallsIn F n Tryd.prog 73 #[.int .u64 z] w fun e w' => e = .returned (.func (.func 82) #[] #[.pointer (some ⟨w.heap.size, 0, none⟩)]) ∧ w.alloc (.cells #[.int .u64 z] 90) = w' := by
  refine callsIn_of_wp Tryd.func73 rfl h7 ?_ hro
  simp only [Tryd.ntmps73, List.size_toArray, List.length_cons, List.length_nil, Nat.reduceAdd, Nat.reduceSub, Array.replicate_succ, Array.replicate_zero, List.push_toArray, List.append_toArray, List.nil_append, List.cons_append]
  gi_wp2
  go_ret
  exact ⟨rfl, rfl⟩
theorem info5 : (Tryd.prog.info? 5).map (fun i => (i.zero, i.size, i.bytes)) = some (some (.int .u8 0), 1, 1) := by kernel_rfl
set_option maxRecDepth 100000 in
set_option maxHeartbeats 2000000 in
theorem putint_in (F : Fence) (n : Nat) (h35 : F.fn 65) (h71 : F.fn 73) (h88 : F.fn 82) (hro : F.round = none) (hn : 3 ≤ n) (x : Int) (hx1 : -4611686018427387903 ≤ x) (hx2 : x ≤ 4611686018427387903) (w : World) :
    CallsIn F n Tryd.prog 65 #[.int .i64 x] w fun e w' => e = .returned (.tuple #[.string ⟨(RW.putI x).toArray⟩, .int .i64 0]) ∧ Below w.heap.size w w' := by
  have h1 : 1 ≤ n := by omega
  have hzz := RW.zz_bits x (by omega) hx2
  have hzl := RW.zz_lt x hx1 hx2
  obtain ⟨i0, hi, hz0, hz1, hz2⟩ := info_parts info5
  refine callsIn_of_wp_marks Tryd.func65 rfl h35 ?_ hro
  simp only [Tryd.ntmps65, List.size_toArray, List.length_cons, List.length_nil, Nat.reduceAdd, Nat.reduceSub, Array.replicate_succ, Array.replicate_zero, List.push_toArray, List.append_toArray, List.nil_append, List.cons_append]
  gi_wp2_with (gi_at_call 73; refine (groups_in F (n - 1) h71 hro _ _).mono ?_; rintro e w' ⟨rfl, rfl⟩)
  clear hzz
  have bO := Boxed.new w 38 (.slice none 0 0)
  have bZ := Boxed.new (w.alloc (.cells #[.slice none 0 0] 38)) 90 (.int .u64 (RW.zz x))
  rw [World.size_alloc] at bZ
  obtain ⟨w0, hw0⟩ : ∃ w0, w0 = (w.alloc (.cells #[.slice none 0 0] 38)).alloc (.cells #[.int .u64 (RW.zz x)] 90) := ⟨_, rfl⟩
  have hB0 : Below w.heap.size w w0 := by rw [hw0]; exact ((Below.refl _ w).alloc (Nat.le_refl _) _).alloc (by simp) _
  have hs0 : w0.heap.size = w.heap.size + 2 := by rw [hw0]; simp
  have bO0 := bO.alloc (.cells #[.int .u64 (RW.zz x)] 90)
  rw [← hw0] at bO0 bZ ⊢
  clear bO
  refine wpIn_rf hro h1 (gf := 82) (lb := #[.pointer (some ⟨w.heap.size + 1, 0, none⟩)]) rfl h88 (enters_of Tryd.func82 (by kernel_rfl) rfl) ?_
  intro fn hfn W1 hW1 hL1 hK1
  have hB1 : Below w.heap.size w W1 := by rw [hW1]; exact (hB0.alloc (by omega) _).alloc (by simp; omega) _
  have bO1 : Boxed W1 w.heap.size 38 (.slice none 0 0) := by rw [hW1]; exact (bO0.alloc _).alloc _
  have bZ1 : Boxed W1 (w.heap.size + 1) 90 (.int .u64 (RW.zz x)) := by rw [hW1]; exact (bZ.alloc _).alloc _
  clear hW1
  have hnl : w.heap.size + 1 ≠ w0.heap.size + 1 := by omega
  have hnd : w.heap.size + 1 ≠ w0.heap.size := by omega
  generalize hrec : ({ state := .ready, pending := none, fn, tmps := _, params := _, assign := _, body := _, defers := w0.heap.size } : Loop) = rec at hL1 ⊢
  refine (groups1 F (n - 1) h88 hro (by omega) (w0.heap.size + 1) (w.heap.size + 1)
    (fun pre W => pre.length ≤ 10 ∧ Below w.heap.size w W ∧ W.heap[w0.heap.size + 1]? = some (.loop rec) ∧ W.heap[w0.heap.size]? = some (.deferred (some [])) ∧
      (∃ u, Boxed W (w.heap.size + 1) 90 u) ∧ ∃ v, Boxed W w.heap.size 38 v ∧ W.ownsRow w.heap.size 5 1 v pre.length (RW.bytesV (pre.map RW.gbyte)))
    ?_ ?_ (RW.zz x) hzl W1 bZ1.cell bZ1.frozen ⟨by simp, hB1, hL1, hK1, ⟨_, bZ1⟩, _, bO1, World.ownsRow_nil _ _ _ _⟩).mono ?_
  · rintro pre W u ⟨hp, hB, hl, hk, ⟨u0, hu⟩, v, hv, hr⟩
    have hne : some (w.heap.size + 1) ≠ v.ownBlock := hu.not_row (by decide) hr
    refine ⟨hp, hB.setCell (by simp) _, (Below.heap_setCell _ _ _ _ (by simp; omega)).trans hl, (Below.heap_setCell _ _ _ _ (by simp; omega)).trans hk, ⟨u, hu.set u⟩, v, hv.kept (grownBy_setCell' W _ u) (by simp), hr.kept (grownBy_setCell' W _ u) (.inr hne.symm)⟩
  · rintro pre g gi b W rfl hg hp10 ⟨hp, hB, hl, hk, ⟨u0, hu⟩, v, hv, hr⟩
    have e1 := congrArg Loop.assign hrec
    have e2 := congrArg Loop.body hrec
    have e3 := congrArg Loop.params hrec
    have e4 := congrArg Loop.tmps hrec
    have e5 := congrArg Loop.fn hrec
    have e6 := congrArg Loop.state hrec
    have e7 := congrArg Loop.pending hrec
    dsimp only at e1 e2 e3 e4 e5 e6 e7
    have eH := hide (And.intro e1 (And.intro e2 (And.intro e3 (And.intro e4 (And.intro e6 e7)))))
    have hor := RW.or128 g hg
    refine yieldAt_body hl e6.symm (by rw [← e3]; rfl) (by rw [← e5]; exact hfn) ?_
    rw [← e1, ← e2, ← e3, ← e4]
    clear e1 e2 e3 e4 e5 e6 e7 hrec
    gi_wp2
    refine ⟨hl, ?_⟩
    intro W2 busy hbusy hl2 hg2
    have hn1 : some (w.heap.size + 1) ≠ some (w0.heap.size + 1) := by simp; omega
    have hB2 : Below w.heap.size W W2 := (Below.refl _ W).grown hg2 hB.size (fun k e => by cases e; omega)
    have hu2 := hu.kept hg2 (by simp; omega)
    have hv2 := hv.kept hg2 (by simp; omega)
    have hr2 : W2.ownsRow w.heap.size 5 1 v pre.length (RW.bytesV (pre.map RW.gbyte)) := by
      refine hr.kept hg2 ?_
      rcases hr.2 with ⟨rfl, _⟩ | ⟨g', cap, cur, rfl, _, hgb, _⟩
      · exact .inl rfl
      · refine .inr fun e' => ?_
        obtain rfl : g' = w0.heap.size + 1 := by simpa [Value.ownBlock] using e'
        rw [hl] at hgb; cases hgb
    have hk2 : W2.heap[w0.heap.size]? = some (.deferred (some [])) := (hg2.block _ (Array.getElem?_eq_some_iff.1 hk).1 (by simp)).trans hk
    have hc2 := hv2.cell
    have hrdy2 : Hid (({ busy with state := .ready, pending := none } : Loop) = rec) := by
      obtain ⟨e1, e2, e3, e4, e6, e7⟩ := eH.out
      show _ = _
      rw [hbusy]; cases rec; simp_all
    clear hbusy eH
    have hbs := hB2.size
    have hbs0 := hB.size
    have fin : ∀ (gb : UInt8) (w1 : World) (v' : Value) (tmp : Obj) (a : Act) (b : Bool), RW.gbyte (g, b) = gb → w1.ownsRow w.heap.size 5 1 v' (pre.length + 1) (RW.bytesV (pre.map RW.gbyte) ++ [.int .u8 gb.toNat]) → (W2.alloc tmp).grownBy w1 v.ownBlock →
        roundQ (w0.heap.size + 1) busy (fun e W' => e = .returned (.bool true) ∧ ((pre ++ [(g, b)]).length ≤ 10 ∧ Below w.heap.size w W' ∧ W'.heap[w0.heap.size + 1]? = some (.loop rec) ∧ W'.heap[w0.heap.size]? = some (.deferred (some [])) ∧
          (∃ u, Boxed W' (w.heap.size + 1) 90 u) ∧ ∃ v, Boxed W' w.heap.size 38 v ∧ W'.ownsRow w.heap.size 5 1 v (pre ++ [(g, b)]).length (RW.bytesV ((pre ++ [(g, b)]).map RW.gbyte))) ∧
          W'.cell? ⟨w.heap.size + 1, 0, none⟩ = W.cell? ⟨w.heap.size + 1, 0, none⟩ ∧ W'.frozen? ⟨w.heap.size + 1, 0, none⟩ = W.frozen? ⟨w.heap.size + 1, 0, none⟩) .normal a (w1.setCell ⟨w.heap.size, 0, none⟩ v') := by
      intro gb w1 v' tmp a b hgb hown' hgrow
      obtain ⟨hv1, hv3, hr3, hk3, hb3⟩ := hv2.appended (by decide) hr2 (by omega) (Nat.le_refl _) hown' hgrow
      have hu3 : Boxed (w1.setCell ⟨w.heap.size, 0, none⟩ v') (w.heap.size + 1) 90 u0 := ((hu2.alloc tmp).kept hgrow (hu2.not_row (by decide) hr2)).kept (grownBy_setCell' _ _ _) (by simp)
      have hl3 := hk3.same _ _ hl2 rfl
      have hd3 := hk3.same _ _ hk2 rfl
      have hL : w0.heap.size + 1 < (w1.setCell ⟨w.heap.size, 0, none⟩ v').heap.size := (Array.getElem?_eq_some_iff.1 hl3).1
      refine ⟨hl3, ?_⟩
      rw [hrdy2.out]
      have hu4 := hu3.kept (grownBy_putObj' _ (w0.heap.size + 1) (.loop rec)) (by simp; omega)
      refine ⟨rfl, ⟨by simp; omega, ((hB.trans hB2).trans hb3).trans ((Below.refl _ _).grown (grownBy_putObj' _ _ _) (by omega) (fun k e => by cases e; omega)), World.putObj_heap_same hL, (World.putObj_heap_other (by omega)).trans hd3, ⟨u0, hu4⟩, v', ?_, ?_⟩, ?_, ?_⟩
      · exact hv3.kept (grownBy_putObj' _ _ _) (by simp; omega)
      · have h5 := ownsRow_putObj hr3 (.loop rec) hl3 rfl
        have e : RW.bytesV ((pre ++ [(g, b)]).map RW.gbyte) = RW.bytesV (pre.map RW.gbyte) ++ [.int .u8 gb.toNat] := by simp [RW.bytesV, hgb]
        rw [e, List.length_append]; exact h5
      · rw [hu4.cell, hu.cell]
      · rw [hu4.frozen, hu.frozen]
    cases b
    · gi_wp2_with (gi_at_builtin; refine wpListIn_append_own _ rfl _ _ 38 rfl w.heap.size 5 i0 (.int .u8 0) 1 1 Tryd.underlying38 hi hz0 hz1 hz2 rfl (by decide) _ _ _ rfl (hr2.alloc _) ⟨W2.heap.size, 0, none⟩ 1 1 [.int .u8 ((g + 128 : Nat) : Int)] rfl rfl (cell_one_new _ _ _) (by simp [Value.oneCell']) (by unfold maxLen; omega) (by omega) (by simp; omega) ?_; intro v' w1 hown' hgrow _; obtain ⟨g', cap', rfl⟩ := ownsRow_succ hown'; obtain ⟨hv1, hv3, hr3, hk3, hb3⟩ := hv2.appended (by decide) hr2 (by omega) (Nat.le_refl _) hown' hgrow; have hc1 := hv1.cell; have hf1 := hv1.frozen)
      refine fin (UInt8.ofNat (g + 128)) _ _ _ _ false rfl ?_ hgrow
      rw [UInt8.toNat_ofNat_of_lt' (show _ < 256 by omega)]; exact hown'
    · gi_wp2_with (gi_at_builtin; refine wpListIn_append_own _ rfl _ _ 38 rfl w.heap.size 5 i0 (.int .u8 0) 1 1 Tryd.underlying38 hi hz0 hz1 hz2 rfl (by decide) _ _ _ rfl (hr2.alloc _) ⟨W2.heap.size, 0, none⟩ 1 1 [.int .u8 (g : Int)] rfl rfl (cell_one_new _ _ _) (by simp [Value.oneCell']) (by unfold maxLen; omega) (by omega) (by simp; omega) ?_; intro v' w1 hown' hgrow _; obtain ⟨g', cap', rfl⟩ := ownsRow_succ hown'; obtain ⟨hv1, hv3, hr3, hk3, hb3⟩ := hv2.appended (by decide) hr2 (by omega) (Nat.le_refl _) hown' hgrow; have hc1 := hv1.cell; have hf1 := hv1.frozen)
      refine fin (UInt8.ofNat g) _ _ _ _ true rfl ?_ hgrow
      rw [UInt8.toNat_ofNat_of_lt' (show _ < 256 by omega)]; exact hown'
  · rintro e W2 ⟨⟨u, rfl⟩, hp, hB, hl, hk, _, v, hv, hr⟩
    have e6 := congrArg Loop.state hrec
    have e7 := congrArg Loop.pending hrec
    dsimp only at e6 e7
    refine ⟨⟨u, rfl⟩, rec, hl, by rw [← e6]; decide, .inl ⟨e7.symm, ?_⟩⟩
    clear e6 e7 hrec
    intro W3 oo hW3
    have hg3 := grownBy_putObj' W2 (w0.heap.size + 1) oo
    have hr3 := ownsRow_putObj hr oo hl rfl
    rw [← hW3] at hg3 hr3
    have hv3 := hv.kept hg3 (by simp; omega)
    have hk3 : W3.heap[w0.heap.size]? = some (.deferred (some [])) := (hg3.block _ (Array.getElem?_eq_some_iff.1 hk).1 (by simp)).trans hk
    have hB3 : Below w.heap.size w W3 := hB.grown hg3 hB.size (fun k e => by cases e; omega)
    clear hW3 hg3 hr hv hB hl hk
    obtain ⟨kk, hkk⟩ := RW.grp_pos 9 (RW.zz x)
    rw [← RW.putI_grp] at hr3
    rw [hkk] at hr3
    obtain ⟨gg, cap, rfl⟩ := ownsRow_succ hr3
    have hll : (RW.putI x).length = kk + 1 := by rw [RW.putI_grp, List.length_map, hkk]
    have hrun := run_convert_bytes_back (P := Tryd.prog) W3 38 9 5 ⟨gg, 0, none⟩ cap (RW.putI x) Tryd.underlying38 Tryd.underlying5 Tryd.underlying9 (RW.own_cells hr3)
    rw [hll] at hrun
    have hc3 := hv3.cell
    clear hkk hll
    gi_wp2
    refine ⟨by simp, .inl ⟨_, _, rfl, run_takeDeferred hk3, ?_⟩⟩
    exact ⟨_, results_tmp2 rfl _ _ _, rfl, hB3.grown (grownBy_putObj' _ _ _) hB3.size (fun k e => by cases e; omega)⟩
end Go.Proofs.YtllbphanfahkkaaDoor

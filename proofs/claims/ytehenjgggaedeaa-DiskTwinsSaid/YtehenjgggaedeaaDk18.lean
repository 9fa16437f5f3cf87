/-
  Package royaltylaw22: DiskTwins: it returns true; only new memory is written.
-/
import Derived.Test.YtehenjgggaedeaaDk17
import Derived.Test.YtehenjgggaedeaaDk13
namespace Go.Proofs.Ytehenjgggaedeaa
open Go.RowKit RG
section
variable {ev : Operand → Value} {o : Oper} {x y z : Operand} {w : World}
theorem op_x1 {D : Value → World → Prop} {k : Nat} {ts : Array TypeId} {n : Value} (ho : o.op = .call ⟨.value (.func k), #[x], ts⟩) (hf : ev (.func k) = .func (.func k) #[] #[]) (hx : ev x = n) (hk : ∀ args w, (callFunc k args).run Try.prog w = .ok (.enter k args) w)
    (h : Calls Try.prog k #[n] w fun e w'' => ∃ u, e = .returned u ∧ D u w'') : XUp Try.prog D ((execOp ev o).run Try.prog w) := by
  have h1 : (execOp ev o).run Try.prog w = .ok (.enter k #[n]) w := by
    unfold execOp
    rw [ho]
    go_simp
  rw [h1]
  exact h
theorem op_pk {p : Bool} {u v r : Value} (ho : o.op = .pick x y z) (hx : ev x = .bool p) (hy : ev y = u) (hz : ev z = v) (hq : (if p = true then u else v) = r) : (execOp ev o).run Try.prog w = .ok (.value r) w := by
  unfold execOp
  rw [ho]
  simp only [hx, hy, hz]
  rw [← hq]
  go_simp
theorem op_fa_p {b i : Nat} (hi : i < 3) (ho : o.op = .fieldAddr 53 x i) (hx : ev x = .pointer (some ⟨b, 0, none⟩)) : (execOp ev o).run Try.prog w = .ok (.value (.pointer (some ⟨b, i, none⟩))) w := by
  rcases i with _ | _ | _ | i
  all_goals first | omega | skip
  all_goals
    unfold execOp
    rw [ho]
    simp only [hx]
    go_simp
theorem op_load_bl {b i : Nat} {p : Bool} (ho : o.op = .load 4 x) (hx : ev x = .pointer (some ⟨b, i, none⟩)) (hc : w.cell? ⟨b, i, none⟩ = some (.bool p)) : (execOp ev o).run Try.prog w = .ok (.value (.bool p)) w := by
  unfold execOp
  rw [ho]
  simp only [hx]
  go_simp
theorem op_ne00 (ho : o.op = .binOp .neq 24 x y 24) (hx : ev x = .int .i64 0) (hy : ev y = .int .i64 0) : (execOp ev o).run Try.prog w = .ok (.value (.bool false)) w := by
  unfold execOp
  rw [ho]
  simp only [hx, hy]
  go_simp
end
/-- two disks that share no block -/
structure Two (b db vb : Nat) (pv : Value) (b' db' vb' : Nat) (pv' : Value) : Prop where
  n1 : b ≠ b'
  n2 : db ≠ db'
  n3 : db ≠ vb'
  n4 : vb ≠ db'
  n5 : vb ≠ vb'
  n6 : ∀ g, pv.ownBlock = some g → pv'.ownBlock ≠ some g
theorem Two.symm {b db vb b' db' vb' : Nat} {pv pv' : Value} (h : Two b db vb pv b' db' vb' pv') : Two b' db' vb' pv' b db vb pv := ⟨h.n1.symm, h.n2.symm, h.n4.symm, h.n3.symm, h.n5.symm, fun g h1 h2 => h.n6 g h2 h1⟩
theorem DiskAt.keepP {W W' : World} {B b n db vb : Nat} {pv : Value} {S : RW.Dk} (h : DiskAt W B b n db vb pv S) (hk : ∀ k, k < W.heap.size → (k = b ∨ k = db ∨ k = vb ∨ pv.ownBlock = some k) → W'.heap[k]? = W.heap[k]?) : DiskAt W' B b n db vb pv S := by
  obtain ⟨h1, h2, h3⟩ := h.lt
  exact ⟨(hk b h1 (.inl rfl)).trans h.row, (hk db h2 (.inr (.inl rfl))).trans h.dur, (hk vb h3 (.inr (.inr (.inl rfl)))).trans h.vis, own_keep h.pend fun g hg => hk g (h.pend.lt g hg).2 (.inr (.inr (.inr hg))), h.hb, h.hd, h.hv, h.ne, h.ld, h.lv, h.hn, h.lf⟩
theorem pend_block {W : World} {B b n db vb : Nat} {pv : Value} {S : RW.Dk} (h : DiskAt W B b n db vb pv S) {g : Nat} (hg : pv.ownBlock = some g) : ∃ cur fr, W.heap[g]? = some (.cells cur 69 fr) := by
  rcases h.pend.2 with ⟨rfl, _⟩ | ⟨g', cap, cur, rfl, _, h3, _⟩
  · cases hg
  · cases hg
    exact ⟨cur, _, h3⟩
/-- a call on one disk leaves the other one as it is -/
theorem Two.frn {W W' : World} {B b db vb B' b' db' vb' n : Nat} {pv pw pv' : Value} {S S' : RW.Dk} (h : Two b db vb pv b' db' vb' pv') (h1 : DiskAt W B b n db vb pv S) (h2 : DiskAt W B' b' n db' vb' pv' S') (hF : Frn b db vb pv W pw W') :
    DiskAt W' B' b' n db' vb' pv' S' ∧ Two b db vb pw b' db' vb' pv' := by
  obtain ⟨l1, l2, l3⟩ := h2.lt
  have hx : ∀ k, k < W.heap.size → (k = b' ∨ k = db' ∨ k = vb' ∨ pv'.ownBlock = some k) → W'.heap[k]? = W.heap[k]? ∧ pw.ownBlock ≠ some k := by
    intro k hk hq
    rcases hq with e | e | e | e
    · subst e
      exact hF.frn _ hk h.n1.symm (blocks_ne h2.row h1.dur (by decide)) (blocks_ne h2.row h1.vis (by decide)) fun e => by
        obtain ⟨c, f, hh⟩ := pend_block h1 e
        exact blocks_ne hh h2.row (by decide) rfl
    · subst e
      exact hF.frn _ hk (blocks_ne h2.dur h1.row (by decide)) h.n2.symm h.n4.symm fun e => by
        obtain ⟨c, f, hh⟩ := pend_block h1 e
        exact blocks_ne hh h2.dur (by decide) rfl
    · subst e
      exact hF.frn _ hk (blocks_ne h2.vis h1.row (by decide)) h.n3.symm h.n5.symm fun e => by
        obtain ⟨c, f, hh⟩ := pend_block h1 e
        exact blocks_ne hh h2.vis (by decide) rfl
    · obtain ⟨c, f, hh⟩ := pend_block h2 e
      exact hF.frn _ hk (blocks_ne hh h1.row (by decide)) (blocks_ne hh h1.dur (by decide)) (blocks_ne hh h1.vis (by decide)) fun e' => h.n6 k e' e
  exact ⟨h2.keepP fun k hk hq => (hx k hk hq).1, ⟨h.n1, h.n2, h.n3, h.n4, h.n5, fun g hg hg2 => (hx g (h2.pend.lt g hg2).2 (.inr (.inr (.inr hg2)))).2 hg⟩⟩
theorem Frn.par {W W' : World} {B b n db vb g : Nat} {pv pv' : Value} {S : RW.Dk} {cs : Array Value} (h : DiskAt W B b n db vb pv S) (hT : Frn b db vb pv W pv' W') (hg : W.heap[g]? = some (.cells cs 53 (0, 0))) : W'.heap[g]? = some (.cells cs 53 (0, 0)) :=
  (hT.frn g (Array.getElem?_eq_some_iff.1 hg).1 (blocks_ne hg h.row (by decide)) (blocks_ne hg h.dur (by decide)) (blocks_ne hg h.vis (by decide)) fun e => by
    obtain ⟨c, f, hh⟩ := pend_block h e
    exact blocks_ne hg hh (by decide) rfl).1.trans hg
/-- three disks, none sharing a block with another one -/
structure TwI (n B1 b1 d1 v1 B2 b2 d2 v2 B3 b3 d3 v3 : Nat) (W : World) (S1 S2 S3 : RW.Dk) (p1 p2 p3 : Value) : Prop where
  a1 : DiskAt W B1 b1 n d1 v1 p1 S1
  a2 : DiskAt W B2 b2 n d2 v2 p2 S2
  a3 : DiskAt W B3 b3 n d3 v3 p3 S3
  t12 : Two b1 d1 v1 p1 b2 d2 v2 p2
  t13 : Two b1 d1 v1 p1 b3 d3 v3 p3
  t23 : Two b2 d2 v2 p2 b3 d3 v3 p3
section
variable {n B1 b1 d1 v1 B2 b2 d2 v2 B3 b3 d3 v3 : Nat} {W W' : World} {S1 S2 S3 S : RW.Dk} {p1 p2 p3 q : Value}
theorem TwI.next (h : TwI n B1 b1 d1 v1 B2 b2 d2 v2 B3 b3 d3 v3 W S1 S2 S3 p1 p2 p3) (hB : Below W.heap.size W W') : TwI n B1 b1 d1 v1 B2 b2 d2 v2 B3 b3 d3 v3 W' S1 S2 S3 p1 p2 p3 := ⟨h.a1.next hB, h.a2.next hB, h.a3.next hB, h.t12, h.t13, h.t23⟩
theorem TwI.one (h : TwI n B1 b1 d1 v1 B2 b2 d2 v2 B3 b3 d3 v3 W S1 S2 S3 p1 p2 p3) (hd : DiskAt W' B1 b1 n d1 v1 q S) (hF : Frn b1 d1 v1 p1 W q W') : TwI n B1 b1 d1 v1 B2 b2 d2 v2 B3 b3 d3 v3 W' S S2 S3 q p2 p3 := ⟨hd, (h.t12.frn h.a1 h.a2 hF).1, (h.t13.frn h.a1 h.a3 hF).1, (h.t12.frn h.a1 h.a2 hF).2, (h.t13.frn h.a1 h.a3 hF).2, h.t23⟩
theorem TwI.two (h : TwI n B1 b1 d1 v1 B2 b2 d2 v2 B3 b3 d3 v3 W S1 S2 S3 p1 p2 p3) (hd : DiskAt W' B2 b2 n d2 v2 q S) (hF : Frn b2 d2 v2 p2 W q W') : TwI n B1 b1 d1 v1 B2 b2 d2 v2 B3 b3 d3 v3 W' S1 S S3 p1 q p3 := ⟨(h.t12.symm.frn h.a2 h.a1 hF).1, hd, (h.t23.frn h.a2 h.a3 hF).1, (h.t12.symm.frn h.a2 h.a1 hF).2.symm, h.t13, (h.t23.frn h.a2 h.a3 hF).2⟩
theorem TwI.three (h : TwI n B1 b1 d1 v1 B2 b2 d2 v2 B3 b3 d3 v3 W S1 S2 S3 p1 p2 p3) (hd : DiskAt W' B3 b3 n d3 v3 q S) (hF : Frn b3 d3 v3 p3 W q W') : TwI n B1 b1 d1 v1 B2 b2 d2 v2 B3 b3 d3 v3 W' S1 S2 S p1 p2 q := ⟨(h.t13.symm.frn h.a3 h.a1 hF).1, (h.t23.symm.frn h.a3 h.a2 hF).1, hd, h.t12, (h.t13.symm.frn h.a3 h.a1 hF).2.symm, (h.t23.symm.frn h.a3 h.a2 hF).2.symm⟩
end
theorem Two.new {W W2 : World} {B b db vb B' b' db' vb' n : Nat} {pv : Value} {S S' : RW.Dk} (h : DiskAt W B b n db vb pv S) (h2 : DiskAt W2 B' b' n db' vb' (.slice none 0 0) S') (hl : W.heap.size ≤ B') : Two b db vb pv b' db' vb' (.slice none 0 0) := by
  obtain ⟨l1, l2, l3⟩ := h.lt
  have e1 := h2.hb
  have e2 := h2.hd
  have e3 := h2.hv
  exact ⟨by omega, by omega, by omega, by omega, by omega, fun g _ hg => by cases hg⟩
theorem write_fok (B b n db vb : Nat) (pv : Value) (S : RW.Dk) (x : RW.Wp) (hoff : S.off = false) (hl : S.left = 0) (w : World) (h : DiskAt w B b n db vb pv S) (hp : S.pend.length < 1000000) (hs : (RW.fitS n x).size ≤ 9223372036854775807) :
    Calls Try.prog 21 #[.pointer (some ⟨b, 0, none⟩), .int .i64 (RW.fitO n x : Int), .string (RW.fitS n x)] w fun e w' => e = .returned (.int .i64 0) ∧ ∃ pv', DiskAt w' B b n db vb pv' (S.wrote n x) ∧ Frn b db vb pv w pv' w' ∧ Below B w w' := by
  have h1 := write_frn B b n db vb pv S (RW.fitO n x : Int) (RW.fitS n x) w h hp hs
  rw [RW.write_fit hoff hl] at h1
  exact h1
theorem sync_fok (B b n db vb : Nat) (pv : Value) (S : RW.Dk) (hoff : S.off = false) (w : World) (h : DiskAt w B b n db vb pv S) :
    Calls Try.prog 23 #[.pointer (some ⟨b, 0, none⟩)] w fun e w' => e = .returned (.int .i64 0) ∧ ∃ pv', DiskAt w' B b n db vb pv' ⟨false, S.left, S.vis, S.vis, []⟩ ∧ Frn b db vb pv w pv' w' ∧ Below B w w' := by
  have h1 := sync_frn B b n db vb pv S w h
  rw [RW.sync_on hoff] at h1
  exact h1
theorem crash_fok (B b n db vb : Nat) (pv : Value) (S : RW.Dk) (torn : Int) (w : World) (h : DiskAt w B b n db vb pv S) (hok : S.ok n) :
    Calls Try.prog 25 #[.pointer (some ⟨b, 0, none⟩), .slice none 0 0, .int .i64 torn] w fun e w' => e = .returned (.int .i64 0) ∧ ∃ pv', DiskAt w' B b n db vb pv' ⟨false, 0, S.dur, S.dur, []⟩ ∧ Frn b db vb pv w pv' w' ∧ Below B w w' := by
  have h1 := crash_frn B b n db vb pv S (.slice none 0 0) [] torn w h hok (by decide) ⟨none, 0, rfl, .inl rfl⟩
  rw [RW.crash_empty] at h1
  exact h1
attribute [local go_sem ↓] ldRow_wp
set_option maxRecDepth 100000 in
set_option maxHeartbeats 2000000 in
theorem disktwins_any (z : Int) (hz : -9223372036854775808 ≤ z) (hz2 : z ≤ 9223372036854775807) (v : Value) (l : List RW.Wp) (hl : ∀ x ∈ l, (-9223372036854775808 ≤ x.1 ∧ x.1 ≤ 9223372036854775807) ∧ x.2.1.size ≤ 9223372036854775807) (w : World) (hv : RowV 3 RW.wpl w v l) :
    Calls Try.prog 11 #[.int .i64 z, v] w fun e w' => e = .returned (.bool true) ∧ Below w.heap.size w w' := by
  have hS := hide (sane_any w)
  have hP := hide (fun W => pick_any z 100 hz hz2 (by decide) (by decide) W)
  have hpb := RW.pickI_bd z 100 (by decide)
  obtain ⟨p, hp⟩ : ∃ p, p = RW.pickI z 100 := ⟨_, rfl⟩
  rw [← hp] at hP hpb
  obtain ⟨n, hn⟩ : ∃ n : Nat, (n : Int) = 1 + p := ⟨(1 + p).toNat, by omega⟩
  have hn1 : 1 ≤ n := by omega
  have hn2 : n ≤ 100 := by omega
  have hn3 : n ≤ 4194304 := by omega
  have hN := hide (fun W => new_any n hn1 hn3 W)
  have hnH := hide hn
  have hlH := hide hl
  obtain ⟨av, cv, rfl, hcv, hav⟩ := hv
  obtain ⟨m, hm⟩ : ∃ m, m = l.length := ⟨_, rfl⟩
  have hmH := hide hm
  have havH := hide hav
  rw [← hm] at hcv ⊢
  obtain ⟨B, hB⟩ : ∃ B, B = w.heap.size := ⟨_, rfl⟩
  have hBH := hide hB
  rw [← hB] at hS ⊢
  obtain ⟨hp0, hp1⟩ := hpb
  clear hz hz2 hp hn hl hm hav hB hcv
  go_enter Try.func11, Try.ntmps11
  go_upto_region 3 with (first
    | (go_at_call 12; refine hS.out.mono ?_; rintro e w1 ⟨rfl, hB1⟩; have hB1H := hide hB1; clear hB1)
    | (go_at_call 15; refine (hP.out _).mono ?_; rintro e w' ⟨rfl, rfl⟩))
  rw [← hnH.out]
  clear hp0 hp1 hP
  go_upto_region 4 with (go_at_call 13; refine (hN.out _).mono ?_; rintro e w2 ⟨b1, rfl, ⟨d1, v1, hd1⟩, hB2⟩; have hd1H := hide hd1; have hB2e := hide hB2; have hB2H := hide (hB1H.out.trans (hB2.mono (by rw [hBH.out]; exact hBH.out ▸ hB1H.out.size))); clear hd1 hB2)
  go_upto_region 5 with (go_at_call 13; refine (hN.out _).mono ?_; rintro e w3 ⟨b2, rfl, ⟨d2, v2, hd2⟩, hB3⟩; have hd2H := hide hd2; have hB3e := hide hB3; have hB3H := hide (hB2H.out.trans (hB3.mono (by rw [hBH.out]; exact hBH.out ▸ hB2H.out.size))); clear hd2 hB3)
  go_upto_region 6 with (go_at_call 13; refine (hN.out _).mono ?_; rintro e w4 ⟨b3, rfl, ⟨d3, v3, hd3⟩, hB4⟩; have hd3H := hide hd3; have hB4e := hide hB4; have hB4H := hide (hB3H.out.trans (hB4.mono (by rw [hBH.out]; exact hBH.out ▸ hB3H.out.size))); clear hd3 hB4)
  have h0 := hide (show TwI n w1.heap.size b1 d1 v1 w2.heap.size b2 d2 v2 w3.heap.size b3 d3 v3 w4 (RW.dk0 n) (RW.dk0 n) (RW.dk0 n) (.slice none 0 0) (.slice none 0 0) (.slice none 0 0) from
    ⟨(hd1H.out.next hB3e.out).next hB4e.out, hd2H.out.next hB4e.out, hd3H.out, Two.new hd1H.out hd2H.out (Nat.le_refl _), Two.new hd1H.out hd3H.out hB3e.out.size, Two.new hd2H.out hd3H.out (Nat.le_refl _)⟩)
  obtain ⟨B1, hE1⟩ : ∃ x, x = w1.heap.size := ⟨_, rfl⟩
  obtain ⟨B2, hE2⟩ : ∃ x, x = w2.heap.size := ⟨_, rfl⟩
  obtain ⟨B3, hE3⟩ : ∃ x, x = w3.heap.size := ⟨_, rfl⟩
  rw [← hE1, ← hE2, ← hE3] at h0
  have hL1 := hide (show B ≤ B1 by rw [hE1, hBH.out]; exact hBH.out ▸ hB1H.out.size)
  have hL2 := hide (show B ≤ B2 by rw [hE2, hBH.out]; exact hBH.out ▸ hB2H.out.size)
  have hL3 := hide (show B ≤ B3 by rw [hE3, hBH.out]; exact hBH.out ▸ hB3H.out.size)
  clear hd1H hd2H hd3H hE1 hE2 hE3 hB1H hB2H hB3H hB2e hB3e hB4e hN hS
  go_wp2
  go_loopw [12] (fun i wr => ∃ j : Nat, i = .int .i64 j ∧ j ≤ 30 ∧ Hid (∃ S S2 p1 p2 p3, TwI n B1 b1 d1 v1 B2 b2 d2 v2 B3 b3 d3 v3 wr S S2 S p1 p2 p3 ∧ (S.off = false ∧ S.left = 0 ∧ S.pend.length ≤ j) ∧ (S2.off = false ∧ S2.left = 0 ∧ S2.pend.length ≤ j) ∧ S2.ok n ∧ Below B w wr)) (fun i _ => 30 - (intOf i).toNat)
  case atStart => exact ⟨0, rfl, Nat.zero_le _, _, _, _, _, _, h0.out, ⟨rfl, rfl, Nat.le_refl _⟩, ⟨rfl, rfl, Nat.le_refl _⟩, (fun y hy => by cases hy), hB4H.out⟩
  case round =>
    obtain ⟨j, rfl, hj, hQ⟩ := hrel
    clear h0 hB4H
    obtain ⟨wo, hwo⟩ : ∃ wo, wo = wr := ⟨_, rfl⟩
    subst hwo
    obtain ⟨S, S2, p1, p2, p3, hI0, hs0, hs20, hok0, hBw⟩ := hQ.out
    have hI := hide hI0
    have hs := hide hs0
    have hs2 := hide hs20
    have hok := hide hok0
    have hBwH := hide hBw
    obtain ⟨c, hc⟩ : ∃ c : Bool, c = decide (j < m ∧ j < 30) := ⟨_, rfl⟩
    have hcH := hide hc
    clear hc hQ hI0 hs0 hs20 hok0 hBw
    go_upto_region 9 with fail
    go_cut [54] (fun s wx => s = .bool c ∧ wx = wo)
    case first =>
      by_cases h1 : j < m
      · by_cases h2 : j < 30
        · have h2i : (j : Int) < 30 := by omega
          go_wp2
          all_goals go_meet
          all_goals exact ⟨by rw [hcH.out, decide_eq_true (show j < m ∧ j < 30 from ⟨h1, h2⟩)] <;> rfl, rfl⟩
        · have h2i : ¬ (j : Int) < 30 := by omega
          go_wp2
          all_goals go_meet
          all_goals exact ⟨by rw [hcH.out, decide_eq_false (show ¬ (j < m ∧ j < 30) from fun h => h2 h.2)] <;> rfl, rfl⟩
      · go_wp2
        all_goals go_meet
        all_goals exact ⟨by rw [hcH.out, decide_eq_false (show ¬ (j < m ∧ j < 30) from fun h => h1 h.1)] <;> rfl, rfl⟩
    case rest =>
    obtain ⟨rfl, hwx⟩ := hcut
    have hwx' := hwx.symm
    subst hwx'
    cases c
    · have hRd1 := hide (read_ok B1 b1 n d1 v1 p1 S hs.out.1 wo hI.out.a1)
      have hRd3 := hide (read_ok B3 b3 n d3 v3 p3 S hs.out.1 wo hI.out.a3)
      have hPd1 := hide (pending_any wo hI.out.a1)
      have hPd3 := hide (pending_any wo hI.out.a3)
      have tok1 : True := trivial
      have tok2 : True := trivial
      clear hcH
      go_wp2_with (first
        | (go_at_call 14; have _t := tok1; refine hRd1.out.mono ?_; rintro e w' ⟨rfl, rfl⟩; clear tok1)
        | (go_at_call 14; refine hRd3.out.mono ?_; rintro e w' ⟨rfl, rfl⟩)
        | (go_at_call 17; have _t := tok2; refine hPd1.out.mono ?_; rintro e w' ⟨rfl, rfl⟩; clear tok2)
        | (go_at_call 17; refine hPd3.out.mono ?_; rintro e w' ⟨rfl, rfl⟩))
      go_ret
      exact ⟨rfl, hBwH.out⟩
    · obtain ⟨hlt, hj30⟩ : j < m ∧ j < 30 := of_decide_eq_true hcH.out.symm
      obtain ⟨x, hx⟩ : ∃ x, l[j]? = some x := ⟨_, List.getElem?_eq_getElem (by rw [← hmH.out]; exact hlt)⟩
      have hxb := hlH.out x (List.mem_of_getElem? hx)
      obtain ⟨bq, oq, rfl, hbq, hcq⟩ := havH.out.resolve_left (by rintro rfl; simp at hx)
      have hrg : wo.rangeAt bq (oq + j * 3) (RW.wpl x) := fun i u hu => (World.cell?_of_block (a := ⟨bq, oq + j * 3 + i, none⟩) (hBwH.out.block _ (by rw [hBH.out]; exact hbq))).trans (hcq j x hx i u hu)
      have hps := wp_size x
      have hFi := hide (fun W => fits_any n (by omega) x hxb.1.1 hxb.1.2 hxb.2 W)
      have hfs := fit_size n x
      have hfle := hide (RW.fit_le n x)
      have hfO := hide (show (RW.fitL n x).toArray[0]? = some (.int .i64 (RW.fitO n x : Int)) from rfl)
      have hf1 := hide (show (RW.fitL n x).toArray[1]? = some (.string (RW.fitS n x)) from rfl)
      have hf2 := hide (show (RW.fitL n x).toArray[2]? = some (.bool x.2.2) from rfl)
      have hszS := hide (show (RW.fitS n x).size ≤ 9223372036854775807 by have := hfle.out; omega)
      have hso0 := hide (show B ≤ wo.heap.size by rw [hBH.out]; exact hBH.out ▸ hBwH.out.size)
      clear hbq hcq hx hxb hcH
      go_upto_region 12 with (first
        | (refine wpList_load_mid rfl 53 (.tmp 59) rfl bq (oq + j * 3) rfl (RW.wpl x) _ hrg Try.underlying53 rfl hps ?_)
        | (go_at_call 26; refine (hFi.out _).mono ?_; rintro e w4 ⟨rfl, hB4⟩; have hB4H := hide hB4; clear hB4)
        | (refine wpListStoreNew rfl 53 (.tmp 13) (.tmp 62) rfl (RW.fitL n x).toArray rfl rfl 53 _ hfs rfl (fit_one n x) ?_))
      obtain ⟨wb, hwb⟩ : ∃ k, k = w4.heap.size := ⟨_, rfl⟩
      have hA4 := hide (hB4H.out.alloc hB4H.out.size (.cells (RW.fitL n x).toArray 53))
      refine gen_w (fun W => W.heap[wb]? = some (.cells (RW.fitL n x).toArray 53 (0, 0)) ∧ Below wo.heap.size wo W) ⟨newAt hwb, hA4.out⟩ ?_
      rw [← hwb]
      clear hwb hA4 hB4H hrg hFi
      rintro w5 ⟨k1, k2⟩
      have hw5 := hide k1
      have hI5 := hide (hI.out.next k2)
      have hBw5 := hide (hBwH.out.trans (k2.mono hso0.out))
      clear k1 k2 hI hBwH
      obtain ⟨sy, hsy⟩ : ∃ sy, sy = x.2.2 := ⟨_, rfl⟩
      have hsyH := hide hsy
      rw [← hsy] at hf2
      clear hsy
      by_cases hodd : (j : Int) % 2 = 1
      · skip
        have hWr := hide (write_fok B2 b2 n d2 v2 p2 S2 x hs2.out.1 hs2.out.2.1 w5 hI5.out.a2 (by have := hs2.out.2.2; omega) hszS.out)
        have e0 : w5.cell? ⟨wb, 0, none⟩ = some (.int .i64 (RW.fitO n x : Int)) := (cellAt hw5.out 0).trans hfO.out
        have e1 : w5.cell? ⟨wb, 1, none⟩ = some (.string (RW.fitS n x)) := (cellAt hw5.out 1).trans hf1.out
        have hok2 := hide (RW.wrote_ok (x := x) hok.out)
        by_cases hq : (RW.fitO n x : Int) % 7 = 3
        · cases sy
          · go_wp2_with (first
              | (go_at_call 21; refine hWr.out.mono ?_; rintro e w7 ⟨rfl, p7, hd7, hF7, hB7⟩; have hI7 := hide (hI5.out.two hd7 hF7); have hw7 := hide (hF7.par hI5.out.a2 hw5.out); have hBw7 := hide (hBw5.out.trans (hB7.mono hL2.out)); have g0 : w7.cell? ⟨wb, 0, none⟩ = some (.int .i64 (RW.fitO n x : Int)) := (cellAt hw7.out 0).trans hfO.out; have g2 : w7.cell? ⟨wb, 2, none⟩ = some (.bool false) := (cellAt hw7.out 2).trans hf2.out; clear hd7 hF7 hB7)
              | (go_at_call 25; refine (crash_fok B2 b2 n d2 v2 p7 (S2.wrote n x) 1 w7 hI7.out.a2 hok2.out).mono ?_; rintro e w9 ⟨rfl, p9, hd9, hF9, hB9⟩; have hI9 := hide (hI7.out.two hd9 hF9); have hBw9 := hide (hBw7.out.trans (hB9.mono hL2.out)); clear hd9 hF9 hB9))
            go_roundw
            case rel => exact ⟨j + 1, by go_num, by omega, S, _, p1, _, p3, hI9.out, ⟨hs.out.1, hs.out.2.1, by have := hs.out.2.2; omega⟩, ⟨rfl, rfl, Nat.zero_le _⟩, (fun y hy => by cases hy), hBw9.out⟩
            case measure => simp [intOf]; omega
          · go_wp2_with (first
              | (go_at_call 21; refine hWr.out.mono ?_; rintro e w7 ⟨rfl, p7, hd7, hF7, hB7⟩; have hI7 := hide (hI5.out.two hd7 hF7); have hw7 := hide (hF7.par hI5.out.a2 hw5.out); have hBw7 := hide (hBw5.out.trans (hB7.mono hL2.out)); have g0 : w7.cell? ⟨wb, 0, none⟩ = some (.int .i64 (RW.fitO n x : Int)) := (cellAt hw7.out 0).trans hfO.out; have g2 : w7.cell? ⟨wb, 2, none⟩ = some (.bool true) := (cellAt hw7.out 2).trans hf2.out; clear hd7 hF7 hB7)
              | (go_at_call 23; refine (sync_fok B2 b2 n d2 v2 p7 (S2.wrote n x) rfl w7 hI7.out.a2).mono ?_; rintro e w8 ⟨rfl, p8, hd8, hF8, hB8⟩; have hI8 := hide (hI7.out.two hd8 hF8); have hw8 := hide (hF8.par hI7.out.a2 hw7.out); have hBw8 := hide (hBw7.out.trans (hB8.mono hL2.out)); have k0 : w8.cell? ⟨wb, 0, none⟩ = some (.int .i64 (RW.fitO n x : Int)) := (cellAt hw8.out 0).trans hfO.out; clear hd8 hF8 hB8)
              | (go_at_call 25; refine (crash_fok B2 b2 n d2 v2 p8 ⟨false, (S2.wrote n x).left, (S2.wrote n x).vis, (S2.wrote n x).vis, []⟩ 1 w8 hI8.out.a2 (fun y hy => by cases hy)).mono ?_; rintro e w9 ⟨rfl, p9, hd9, hF9, hB9⟩; have hI9 := hide (hI8.out.two hd9 hF9); have hBw9 := hide (hBw8.out.trans (hB9.mono hL2.out)); clear hd9 hF9 hB9))
            go_roundw
            case rel => exact ⟨j + 1, by go_num, by omega, S, _, p1, _, p3, hI9.out, ⟨hs.out.1, hs.out.2.1, by have := hs.out.2.2; omega⟩, ⟨rfl, rfl, Nat.zero_le _⟩, (fun y hy => by cases hy), hBw9.out⟩
            case measure => simp [intOf]; omega
        · cases sy
          · go_wp2_with (first
              | (go_at_call 21; refine hWr.out.mono ?_; rintro e w7 ⟨rfl, p7, hd7, hF7, hB7⟩; have hI7 := hide (hI5.out.two hd7 hF7); have hw7 := hide (hF7.par hI5.out.a2 hw5.out); have hBw7 := hide (hBw5.out.trans (hB7.mono hL2.out)); have g0 : w7.cell? ⟨wb, 0, none⟩ = some (.int .i64 (RW.fitO n x : Int)) := (cellAt hw7.out 0).trans hfO.out; have g2 : w7.cell? ⟨wb, 2, none⟩ = some (.bool false) := (cellAt hw7.out 2).trans hf2.out; clear hd7 hF7 hB7))
            go_roundw
            case rel => exact ⟨j + 1, by go_num, by omega, S, _, p1, _, p3, hI7.out, ⟨hs.out.1, hs.out.2.1, by have := hs.out.2.2; omega⟩, ⟨rfl, rfl, by show (S2.pend ++ [_]).length ≤ _; rw [List.length_append]; have := hs2.out.2.2; simp; omega⟩, hok2.out, hBw7.out⟩
            case measure => simp [intOf]; omega
          · go_wp2_with (first
              | (go_at_call 21; refine hWr.out.mono ?_; rintro e w7 ⟨rfl, p7, hd7, hF7, hB7⟩; have hI7 := hide (hI5.out.two hd7 hF7); have hw7 := hide (hF7.par hI5.out.a2 hw5.out); have hBw7 := hide (hBw5.out.trans (hB7.mono hL2.out)); have g0 : w7.cell? ⟨wb, 0, none⟩ = some (.int .i64 (RW.fitO n x : Int)) := (cellAt hw7.out 0).trans hfO.out; have g2 : w7.cell? ⟨wb, 2, none⟩ = some (.bool true) := (cellAt hw7.out 2).trans hf2.out; clear hd7 hF7 hB7)
              | (go_at_call 23; refine (sync_fok B2 b2 n d2 v2 p7 (S2.wrote n x) rfl w7 hI7.out.a2).mono ?_; rintro e w8 ⟨rfl, p8, hd8, hF8, hB8⟩; have hI8 := hide (hI7.out.two hd8 hF8); have hw8 := hide (hF8.par hI7.out.a2 hw7.out); have hBw8 := hide (hBw7.out.trans (hB8.mono hL2.out)); have k0 : w8.cell? ⟨wb, 0, none⟩ = some (.int .i64 (RW.fitO n x : Int)) := (cellAt hw8.out 0).trans hfO.out; clear hd8 hF8 hB8))
            go_roundw
            case rel => exact ⟨j + 1, by go_num, by omega, S, _, p1, _, p3, hI8.out, ⟨hs.out.1, hs.out.2.1, by have := hs.out.2.2; omega⟩, ⟨rfl, rfl, Nat.zero_le _⟩, (fun y hy => by cases hy), hBw8.out⟩
            case measure => simp [intOf]; omega
      · cases sy
        · go_upto_region 15 with fail
          refine wp_region_k (fun _ W => W.heap[wb]? = some (.cells (RW.fitL n x).toArray 53 (0, 0))) (fun W => TwI n B1 b1 d1 v1 B2 b2 d2 v2 B3 b3 d3 v3 W S S2 S p1 p2 p3 ∧ Below B w W) [5, 11] (.op 0 (.op 1 (.op 2 (.op 3 (.op 4 (.op 6 (.op 7 (.op 8 (.op 9 (.op 10 (.op 5 (.op 11 (.op 12 (.op 13 (.op 14 (.op 15 (.op 16 (.op 17 (.op 18 (.op 19 (.op 20 (.op 21 (.op 22 (.op 23 .nil)))))))))))))))))))))))) (by kernel_rfl) (by kernel_rfl) (by rfl) (by kernel_rfl) hw5.out ⟨hI5.out.next (Below.refl _ _).drew, hBw5.out.trans (Below.refl _ _).drew⟩ ?_
          refine k_val (.pointer (some ⟨b1, 0, none⟩)) (by apply opN; repeat' (first | apply OpAt.z | apply OpAt.s)) (by rfl) (by rfl) (fun _ W hS => op_mv rfl rfl) ?_
          simp only [Act.put, List.setIfInBounds_toArray, List.set_cons_zero, List.set_cons_succ]
          refine k_val (.pointer (some ⟨wb, 0, none⟩)) (by apply opN; repeat' (first | apply OpAt.z | apply OpAt.s)) (by rfl) (by rfl) (fun _ W hS => op_fa_p (by decide) rfl rfl) ?_
          simp only [Act.put, List.setIfInBounds_toArray, List.set_cons_zero, List.set_cons_succ]
          refine k_val (.int .i64 (RW.fitO n x : Int)) (by apply opN; repeat' (first | apply OpAt.z | apply OpAt.s)) (by rfl) (by rfl) (fun _ W hS => op_load_int rfl rfl ((cellAt hS 0).trans hfO.out)) ?_
          simp only [Act.put, List.setIfInBounds_toArray, List.set_cons_zero, List.set_cons_succ]
          refine k_val (.pointer (some ⟨wb, 1, none⟩)) (by apply opN; repeat' (first | apply OpAt.z | apply OpAt.s)) (by rfl) (by rfl) (fun _ W hS => op_fa_p (by decide) rfl rfl) ?_
          simp only [Act.put, List.setIfInBounds_toArray, List.set_cons_zero, List.set_cons_succ]
          refine k_val (.string (RW.fitS n x)) (by apply opN; repeat' (first | apply OpAt.z | apply OpAt.s)) (by rfl) (by rfl) (fun _ W hS => op_load_str rfl rfl ((cellAt hS 1).trans hf1.out)) ?_
          simp only [Act.put, List.setIfInBounds_toArray, List.set_cons_zero, List.set_cons_succ]
          refine k_val (.pointer (some ⟨b3, 0, none⟩)) (by apply opN; repeat' (first | apply OpAt.z | apply OpAt.s)) (by rfl) (by rfl) (fun _ W hS => op_mv rfl rfl) ?_
          simp only [Act.put, List.setIfInBounds_toArray, List.set_cons_zero, List.set_cons_succ]
          refine k_val (.pointer (some ⟨wb, 0, none⟩)) (by apply opN; repeat' (first | apply OpAt.z | apply OpAt.s)) (by rfl) (by rfl) (fun _ W hS => op_fa_p (by decide) rfl rfl) ?_
          simp only [Act.put, List.setIfInBounds_toArray, List.set_cons_zero, List.set_cons_succ]
          refine k_val (.int .i64 (RW.fitO n x : Int)) (by apply opN; repeat' (first | apply OpAt.z | apply OpAt.s)) (by rfl) (by rfl) (fun _ W hS => op_load_int rfl rfl ((cellAt hS 0).trans hfO.out)) ?_
          simp only [Act.put, List.setIfInBounds_toArray, List.set_cons_zero, List.set_cons_succ]
          refine k_val (.pointer (some ⟨wb, 1, none⟩)) (by apply opN; repeat' (first | apply OpAt.z | apply OpAt.s)) (by rfl) (by rfl) (fun _ W hS => op_fa_p (by decide) rfl rfl) ?_
          simp only [Act.put, List.setIfInBounds_toArray, List.set_cons_zero, List.set_cons_succ]
          refine k_val (.string (RW.fitS n x)) (by apply opN; repeat' (first | apply OpAt.z | apply OpAt.s)) (by rfl) (by rfl) (fun _ W hS => op_load_str rfl rfl ((cellAt hS 1).trans hf1.out)) ?_
          simp only [Act.put, List.setIfInBounds_toArray, List.set_cons_zero, List.set_cons_succ]
          refine k_step (fun K' u => u = .int .i64 0 ∧ K' = fun W => ∃ q1, TwI n B1 b1 d1 v1 B2 b2 d2 v2 B3 b3 d3 v3 W (S.wrote n x) S2 S q1 p2 p3 ∧ Below B w W) (by apply opN; repeat' (first | apply OpAt.z | apply OpAt.s)) (by rfl) (by rfl) (by rfl) (fun W hC hK => ?_) ?_
          · refine op_x3 rfl rfl rfl rfl rfl (fun _ _ => rfl) ((write_fok B1 b1 n d1 v1 p1 S x hs.out.1 hs.out.2.1 W hK.1.a1 (by have := hs.out.2.2; omega) hszS.out).mono ?_)
            rintro e W' ⟨rfl, q1, h1, h2, h3⟩
            exact ⟨_, rfl, h2.par hK.1.a1 hC, _, ⟨q1, hK.1.one h1 h2, hK.2.trans (h3.mono hL1.out)⟩, rfl, rfl⟩
          rintro _ _ ⟨rfl, rfl⟩
          simp only [Act.put, List.setIfInBounds_toArray, List.set_cons_zero, List.set_cons_succ]
          refine k_step (fun K' u => u = .int .i64 0 ∧ K' = fun W => ∃ q1 q3, TwI n B1 b1 d1 v1 B2 b2 d2 v2 B3 b3 d3 v3 W (S.wrote n x) S2 (S.wrote n x) q1 p2 q3 ∧ Below B w W) (by apply opN; repeat' (first | apply OpAt.z | apply OpAt.s)) (by rfl) (by rfl) (by rfl) (fun W hC hK => ?_) ?_
          · obtain ⟨q1, hT, hW⟩ := hK
            refine op_x3 rfl rfl rfl rfl rfl (fun _ _ => rfl) ((write_fok B3 b3 n d3 v3 p3 S x hs.out.1 hs.out.2.1 W hT.a3 (by have := hs.out.2.2; omega) hszS.out).mono ?_)
            rintro e W' ⟨rfl, q3, h1, h2, h3⟩
            exact ⟨_, rfl, h2.par hT.a3 hC, _, ⟨q1, q3, hT.three h1 h2, hW.trans (h3.mono hL3.out)⟩, rfl, rfl⟩
          rintro _ _ ⟨rfl, rfl⟩
          simp only [Act.put, List.setIfInBounds_toArray, List.set_cons_zero, List.set_cons_succ]
          refine k_val (.bool false) (by apply opN; repeat' (first | apply OpAt.z | apply OpAt.s)) (by rfl) (by rfl) (fun _ W hS => op_ne00 rfl rfl rfl) ?_
          simp only [Act.put, List.setIfInBounds_toArray, List.set_cons_zero, List.set_cons_succ]
          refine k_val (.bool false) (by apply opN; repeat' (first | apply OpAt.z | apply OpAt.s)) (by rfl) (by rfl) (fun _ W hS => op_mv rfl rfl) ?_
          simp only [Act.put, List.setIfInBounds_toArray, List.set_cons_zero, List.set_cons_succ]
          refine k_val (.pointer (some ⟨wb, 2, none⟩)) (by apply opN; repeat' (first | apply OpAt.z | apply OpAt.s)) (by rfl) (by rfl) (fun _ W hS => op_fa_p (by decide) rfl rfl) ?_
          simp only [Act.put, List.setIfInBounds_toArray, List.set_cons_zero, List.set_cons_succ]
          refine k_val (.bool false) (by apply opN; repeat' (first | apply OpAt.z | apply OpAt.s)) (by rfl) (by rfl) (fun _ W hS => op_load_bl rfl rfl ((cellAt hS 2).trans hf2.out)) ?_
          simp only [Act.put, List.setIfInBounds_toArray, List.set_cons_zero, List.set_cons_succ]
          refine k_val (.bool false) (by apply opN; repeat' (first | apply OpAt.z | apply OpAt.s)) (by rfl) (by rfl) (fun _ W hS => op_mv rfl rfl) ?_
          simp only [Act.put, List.setIfInBounds_toArray, List.set_cons_zero, List.set_cons_succ]
          refine k_skip (by apply opN; repeat' (first | apply OpAt.z | apply OpAt.s)) (by rfl) (by rfl) ?_
          simp only [Act.put, List.setIfInBounds_toArray, List.set_cons_zero, List.set_cons_succ]
          refine k_skip (by apply opN; repeat' (first | apply OpAt.z | apply OpAt.s)) (by rfl) (by rfl) ?_
          simp only [Act.put, List.setIfInBounds_toArray, List.set_cons_zero, List.set_cons_succ]
          refine k_skip (by apply opN; repeat' (first | apply OpAt.z | apply OpAt.s)) (by rfl) (by rfl) ?_
          simp only [Act.put, List.setIfInBounds_toArray, List.set_cons_zero, List.set_cons_succ]
          refine k_skip (by apply opN; repeat' (first | apply OpAt.z | apply OpAt.s)) (by rfl) (by rfl) ?_
          simp only [Act.put, List.setIfInBounds_toArray, List.set_cons_zero, List.set_cons_succ]
          refine k_skip (by apply opN; repeat' (first | apply OpAt.z | apply OpAt.s)) (by rfl) (by rfl) ?_
          simp only [Act.put, List.setIfInBounds_toArray, List.set_cons_zero, List.set_cons_succ]
          refine k_val (.bool false) (by apply opN; repeat' (first | apply OpAt.z | apply OpAt.s)) (by rfl) (by rfl) (fun _ W hS => op_pk rfl rfl rfl rfl rfl) ?_
          simp only [Act.put, List.setIfInBounds_toArray, List.set_cons_zero, List.set_cons_succ]
          refine k_val (.bool false) (by apply opN; repeat' (first | apply OpAt.z | apply OpAt.s)) (by rfl) (by rfl) (fun _ W hS => op_pk rfl rfl rfl rfl rfl) ?_
          simp only [Act.put, List.setIfInBounds_toArray, List.set_cons_zero, List.set_cons_succ]
          refine k_nil ?_
          intro W hC hK
          obtain ⟨q1, q3, hT, hW⟩ := hK
          have hTH := hide hT
          have hWH := hide hW
          clear hC hT hW
          go_wp2
          go_roundw
          case rel => exact ⟨j + 1, by go_num, by omega, S.wrote n x, S2, q1, p2, q3, hTH.out, ⟨rfl, rfl, by show (S.pend ++ [_]).length ≤ _; rw [List.length_append]; have := hs.out.2.2; simp; omega⟩, ⟨hs2.out.1, hs2.out.2.1, by have := hs2.out.2.2; omega⟩, hok.out, hWH.out⟩
          case measure => simp [intOf]; omega
        · go_upto_region 15 with fail
          refine wp_region_k (fun _ W => W.heap[wb]? = some (.cells (RW.fitL n x).toArray 53 (0, 0))) (fun W => TwI n B1 b1 d1 v1 B2 b2 d2 v2 B3 b3 d3 v3 W S S2 S p1 p2 p3 ∧ Below B w W) [5, 11, 18, 20] (.op 0 (.op 1 (.op 2 (.op 3 (.op 4 (.op 6 (.op 7 (.op 8 (.op 9 (.op 10 (.op 5 (.op 11 (.op 12 (.op 13 (.op 14 (.op 15 (.op 16 (.op 17 (.op 19 (.op 18 (.op 20 (.op 21 (.op 22 (.op 23 .nil)))))))))))))))))))))))) (by kernel_rfl) (by kernel_rfl) (by rfl) (by kernel_rfl) hw5.out ⟨hI5.out.next (Below.refl _ _).drew, hBw5.out.trans (Below.refl _ _).drew⟩ ?_
          refine k_val (.pointer (some ⟨b1, 0, none⟩)) (by apply opN; repeat' (first | apply OpAt.z | apply OpAt.s)) (by rfl) (by rfl) (fun _ W hS => op_mv rfl rfl) ?_
          simp only [Act.put, List.setIfInBounds_toArray, List.set_cons_zero, List.set_cons_succ]
          refine k_val (.pointer (some ⟨wb, 0, none⟩)) (by apply opN; repeat' (first | apply OpAt.z | apply OpAt.s)) (by rfl) (by rfl) (fun _ W hS => op_fa_p (by decide) rfl rfl) ?_
          simp only [Act.put, List.setIfInBounds_toArray, List.set_cons_zero, List.set_cons_succ]
          refine k_val (.int .i64 (RW.fitO n x : Int)) (by apply opN; repeat' (first | apply OpAt.z | apply OpAt.s)) (by rfl) (by rfl) (fun _ W hS => op_load_int rfl rfl ((cellAt hS 0).trans hfO.out)) ?_
          simp only [Act.put, List.setIfInBounds_toArray, List.set_cons_zero, List.set_cons_succ]
          refine k_val (.pointer (some ⟨wb, 1, none⟩)) (by apply opN; repeat' (first | apply OpAt.z | apply OpAt.s)) (by rfl) (by rfl) (fun _ W hS => op_fa_p (by decide) rfl rfl) ?_
          simp only [Act.put, List.setIfInBounds_toArray, List.set_cons_zero, List.set_cons_succ]
          refine k_val (.string (RW.fitS n x)) (by apply opN; repeat' (first | apply OpAt.z | apply OpAt.s)) (by rfl) (by rfl) (fun _ W hS => op_load_str rfl rfl ((cellAt hS 1).trans hf1.out)) ?_
          simp only [Act.put, List.setIfInBounds_toArray, List.set_cons_zero, List.set_cons_succ]
          refine k_val (.pointer (some ⟨b3, 0, none⟩)) (by apply opN; repeat' (first | apply OpAt.z | apply OpAt.s)) (by rfl) (by rfl) (fun _ W hS => op_mv rfl rfl) ?_
          simp only [Act.put, List.setIfInBounds_toArray, List.set_cons_zero, List.set_cons_succ]
          refine k_val (.pointer (some ⟨wb, 0, none⟩)) (by apply opN; repeat' (first | apply OpAt.z | apply OpAt.s)) (by rfl) (by rfl) (fun _ W hS => op_fa_p (by decide) rfl rfl) ?_
          simp only [Act.put, List.setIfInBounds_toArray, List.set_cons_zero, List.set_cons_succ]
          refine k_val (.int .i64 (RW.fitO n x : Int)) (by apply opN; repeat' (first | apply OpAt.z | apply OpAt.s)) (by rfl) (by rfl) (fun _ W hS => op_load_int rfl rfl ((cellAt hS 0).trans hfO.out)) ?_
          simp only [Act.put, List.setIfInBounds_toArray, List.set_cons_zero, List.set_cons_succ]
          refine k_val (.pointer (some ⟨wb, 1, none⟩)) (by apply opN; repeat' (first | apply OpAt.z | apply OpAt.s)) (by rfl) (by rfl) (fun _ W hS => op_fa_p (by decide) rfl rfl) ?_
          simp only [Act.put, List.setIfInBounds_toArray, List.set_cons_zero, List.set_cons_succ]
          refine k_val (.string (RW.fitS n x)) (by apply opN; repeat' (first | apply OpAt.z | apply OpAt.s)) (by rfl) (by rfl) (fun _ W hS => op_load_str rfl rfl ((cellAt hS 1).trans hf1.out)) ?_
          simp only [Act.put, List.setIfInBounds_toArray, List.set_cons_zero, List.set_cons_succ]
          refine k_step (fun K' u => u = .int .i64 0 ∧ K' = fun W => ∃ q1, TwI n B1 b1 d1 v1 B2 b2 d2 v2 B3 b3 d3 v3 W (S.wrote n x) S2 S q1 p2 p3 ∧ Below B w W) (by apply opN; repeat' (first | apply OpAt.z | apply OpAt.s)) (by rfl) (by rfl) (by rfl) (fun W hC hK => ?_) ?_
          · refine op_x3 rfl rfl rfl rfl rfl (fun _ _ => rfl) ((write_fok B1 b1 n d1 v1 p1 S x hs.out.1 hs.out.2.1 W hK.1.a1 (by have := hs.out.2.2; omega) hszS.out).mono ?_)
            rintro e W' ⟨rfl, q1, h1, h2, h3⟩
            exact ⟨_, rfl, h2.par hK.1.a1 hC, _, ⟨q1, hK.1.one h1 h2, hK.2.trans (h3.mono hL1.out)⟩, rfl, rfl⟩
          rintro _ _ ⟨rfl, rfl⟩
          simp only [Act.put, List.setIfInBounds_toArray, List.set_cons_zero, List.set_cons_succ]
          refine k_step (fun K' u => u = .int .i64 0 ∧ K' = fun W => ∃ q1 q3, TwI n B1 b1 d1 v1 B2 b2 d2 v2 B3 b3 d3 v3 W (S.wrote n x) S2 (S.wrote n x) q1 p2 q3 ∧ Below B w W) (by apply opN; repeat' (first | apply OpAt.z | apply OpAt.s)) (by rfl) (by rfl) (by rfl) (fun W hC hK => ?_) ?_
          · obtain ⟨q1, hT, hW⟩ := hK
            refine op_x3 rfl rfl rfl rfl rfl (fun _ _ => rfl) ((write_fok B3 b3 n d3 v3 p3 S x hs.out.1 hs.out.2.1 W hT.a3 (by have := hs.out.2.2; omega) hszS.out).mono ?_)
            rintro e W' ⟨rfl, q3, h1, h2, h3⟩
            exact ⟨_, rfl, h2.par hT.a3 hC, _, ⟨q1, q3, hT.three h1 h2, hW.trans (h3.mono hL3.out)⟩, rfl, rfl⟩
          rintro _ _ ⟨rfl, rfl⟩
          simp only [Act.put, List.setIfInBounds_toArray, List.set_cons_zero, List.set_cons_succ]
          refine k_val (.bool false) (by apply opN; repeat' (first | apply OpAt.z | apply OpAt.s)) (by rfl) (by rfl) (fun _ W hS => op_ne00 rfl rfl rfl) ?_
          simp only [Act.put, List.setIfInBounds_toArray, List.set_cons_zero, List.set_cons_succ]
          refine k_val (.bool false) (by apply opN; repeat' (first | apply OpAt.z | apply OpAt.s)) (by rfl) (by rfl) (fun _ W hS => op_mv rfl rfl) ?_
          simp only [Act.put, List.setIfInBounds_toArray, List.set_cons_zero, List.set_cons_succ]
          refine k_val (.pointer (some ⟨wb, 2, none⟩)) (by apply opN; repeat' (first | apply OpAt.z | apply OpAt.s)) (by rfl) (by rfl) (fun _ W hS => op_fa_p (by decide) rfl rfl) ?_
          simp only [Act.put, List.setIfInBounds_toArray, List.set_cons_zero, List.set_cons_succ]
          refine k_val (.bool true) (by apply opN; repeat' (first | apply OpAt.z | apply OpAt.s)) (by rfl) (by rfl) (fun _ W hS => op_load_bl rfl rfl ((cellAt hS 2).trans hf2.out)) ?_
          simp only [Act.put, List.setIfInBounds_toArray, List.set_cons_zero, List.set_cons_succ]
          refine k_val (.bool true) (by apply opN; repeat' (first | apply OpAt.z | apply OpAt.s)) (by rfl) (by rfl) (fun _ W hS => op_mv rfl rfl) ?_
          simp only [Act.put, List.setIfInBounds_toArray, List.set_cons_zero, List.set_cons_succ]
          refine k_val (.pointer (some ⟨b1, 0, none⟩)) (by apply opN; repeat' (first | apply OpAt.z | apply OpAt.s)) (by rfl) (by rfl) (fun _ W hS => op_mv rfl rfl) ?_
          simp only [Act.put, List.setIfInBounds_toArray, List.set_cons_zero, List.set_cons_succ]
          refine k_val (.pointer (some ⟨b3, 0, none⟩)) (by apply opN; repeat' (first | apply OpAt.z | apply OpAt.s)) (by rfl) (by rfl) (fun _ W hS => op_mv rfl rfl) ?_
          simp only [Act.put, List.setIfInBounds_toArray, List.set_cons_zero, List.set_cons_succ]
          refine k_step (fun K' u => u = .int .i64 0 ∧ K' = fun W => ∃ q1 q3, TwI n B1 b1 d1 v1 B2 b2 d2 v2 B3 b3 d3 v3 W ⟨false, (S.wrote n x).left, (S.wrote n x).vis, (S.wrote n x).vis, []⟩ S2 (S.wrote n x) q1 p2 q3 ∧ Below B w W) (by apply opN; repeat' (first | apply OpAt.z | apply OpAt.s)) (by rfl) (by rfl) (by rfl) (fun W hC hK => ?_) ?_
          · obtain ⟨q1, q3, hT, hW⟩ := hK
            refine op_x1 rfl rfl rfl (fun _ _ => rfl) ((sync_fok B1 b1 n d1 v1 q1 (S.wrote n x) rfl W hT.a1).mono ?_)
            rintro e W' ⟨rfl, q1', h1, h2, h3⟩
            exact ⟨_, rfl, h2.par hT.a1 hC, _, ⟨q1', q3, hT.one h1 h2, hW.trans (h3.mono hL1.out)⟩, rfl, rfl⟩
          rintro _ _ ⟨rfl, rfl⟩
          simp only [Act.put, List.setIfInBounds_toArray, List.set_cons_zero, List.set_cons_succ]
          refine k_step (fun K' u => u = .int .i64 0 ∧ K' = fun W => ∃ q1 q3, TwI n B1 b1 d1 v1 B2 b2 d2 v2 B3 b3 d3 v3 W ⟨false, (S.wrote n x).left, (S.wrote n x).vis, (S.wrote n x).vis, []⟩ S2 ⟨false, (S.wrote n x).left, (S.wrote n x).vis, (S.wrote n x).vis, []⟩ q1 p2 q3 ∧ Below B w W) (by apply opN; repeat' (first | apply OpAt.z | apply OpAt.s)) (by rfl) (by rfl) (by rfl) (fun W hC hK => ?_) ?_
          · obtain ⟨q1, q3, hT, hW⟩ := hK
            refine op_x1 rfl rfl rfl (fun _ _ => rfl) ((sync_fok B3 b3 n d3 v3 q3 (S.wrote n x) rfl W hT.a3).mono ?_)
            rintro e W' ⟨rfl, q3', h1, h2, h3⟩
            exact ⟨_, rfl, h2.par hT.a3 hC, _, ⟨q1, q3', hT.three h1 h2, hW.trans (h3.mono hL3.out)⟩, rfl, rfl⟩
          rintro _ _ ⟨rfl, rfl⟩
          simp only [Act.put, List.setIfInBounds_toArray, List.set_cons_zero, List.set_cons_succ]
          refine k_val (.bool false) (by apply opN; repeat' (first | apply OpAt.z | apply OpAt.s)) (by rfl) (by rfl) (fun _ W hS => op_ne00 rfl rfl rfl) ?_
          simp only [Act.put, List.setIfInBounds_toArray, List.set_cons_zero, List.set_cons_succ]
          refine k_val (.bool false) (by apply opN; repeat' (first | apply OpAt.z | apply OpAt.s)) (by rfl) (by rfl) (fun _ W hS => op_pk rfl rfl rfl rfl rfl) ?_
          simp only [Act.put, List.setIfInBounds_toArray, List.set_cons_zero, List.set_cons_succ]
          refine k_val (.bool false) (by apply opN; repeat' (first | apply OpAt.z | apply OpAt.s)) (by rfl) (by rfl) (fun _ W hS => op_pk rfl rfl rfl rfl rfl) ?_
          simp only [Act.put, List.setIfInBounds_toArray, List.set_cons_zero, List.set_cons_succ]
          refine k_nil ?_
          intro W hC hK
          obtain ⟨q1, q3, hT, hW⟩ := hK
          have hTH := hide hT
          have hWH := hide hW
          clear hC hT hW
          go_wp2
          go_roundw
          case rel => exact ⟨j + 1, by go_num, by omega, ⟨false, (S.wrote n x).left, (S.wrote n x).vis, (S.wrote n x).vis, []⟩, S2, q1, p2, q3, hTH.out, ⟨rfl, rfl, Nat.zero_le _⟩, ⟨hs2.out.1, hs2.out.2.1, by have := hs2.out.2.2; omega⟩, hok.out, hWH.out⟩
          case measure => simp [intOf]; omega
end Go.Proofs.Ytehenjgggaedeaa

/-
  Package disk: Sync, Write, Crash: what they change, as two disks need it.
-/
import Derived.Maps.AppendAt
import Derived.Test.YtehenjgggaedeaaDk12
namespace Go.Proofs.Ytehenjgggaedeaa
open Go.RowKit RG
/-- what a call on a disk does to what is not the disk's own; the block of its writes is an old one of its own, or new -/
structure Frn (b db vb : Nat) (pv : Value) (W : World) (pv' : Value) (W' : World) : Prop where
  size : W.heap.size ≤ W'.heap.size
  frn : ∀ k, k < W.heap.size → k ≠ b → k ≠ db → k ≠ vb → pv.ownBlock ≠ some k → W'.heap[k]? = W.heap[k]? ∧ pv'.ownBlock ≠ some k
theorem Frn.refl (b db vb : Nat) (pv : Value) (W : World) : Frn b db vb pv W pv W := ⟨Nat.le_refl _, fun _ _ _ _ _ h => ⟨rfl, h⟩⟩
theorem Frn.trans {b db vb : Nat} {pv pv' pv'' : Value} {W W' W'' : World} (h : Frn b db vb pv W pv' W') (g : Frn b db vb pv' W' pv'' W'') : Frn b db vb pv W pv'' W'' :=
  ⟨Nat.le_trans h.size g.size, fun k hk h1 h2 h3 h4 => by
    have e := h.frn k hk h1 h2 h3 h4
    have f := g.frn k (Nat.lt_of_lt_of_le hk h.size) h1 h2 h3 e.2
    exact ⟨f.1.trans e.1, f.2⟩⟩
theorem Frn.of_below {b db vb : Nat} {pv : Value} {W W' : World} (h : Below W.heap.size W W') : Frn b db vb pv W pv W' := ⟨h.size, fun k hk _ _ _ h4 => ⟨h.block k hk, h4⟩⟩
theorem own_frn {W W' : World} {B B' b n db vb : Nat} {pv pv' v : Value} {S : RW.Dk} {e : TypeId} {k m : Nat} {xs : List Value} (h : W.ownsRow B' e k v m xs) (hd : DiskAt W B b n db vb pv S) (hT : Frn b db vb pv W pv' W') (he : e ≠ 65 ∧ e ≠ 5 ∧ e ≠ 69) : W'.ownsRow B' e k v m xs :=
  own_keep h fun g hg => by
    rcases h.2 with ⟨rfl, _⟩ | ⟨g', cap, cur, rfl, _, h3, _⟩
    · cases hg
    · cases hg
      refine (hT.frn _ (Array.getElem?_eq_some_iff.1 h3).1 (blocks_ne h3 hd.row he.1) (blocks_ne h3 hd.dur he.2.1) (blocks_ne h3 hd.vis he.2.1) fun e' => ?_).1
      rcases hd.pend.2 with ⟨rfl, _⟩ | ⟨g2, cap2, cur2, rfl, _, h5, _⟩
      · cases e'
      · cases e'
        exact blocks_ne h3 h5 he.2.2 rfl
theorem ChgS.frn {W W' : World} {b db vb : Nat} {pv pv' : Value} {Q : Nat → Prop} (hc : ChgS Q W W') (hQ : ∀ j, Q j → j = b ∨ j = db ∨ j = vb ∨ pv.ownBlock = some j) (h4 : ∀ g, pv'.ownBlock = some g → pv.ownBlock = some g) : Frn b db vb pv W pv' W' :=
  ⟨hc.size, fun k hk h1 h2 h3 h5 => ⟨hc.block k hk fun hq => by
    rcases hQ k hq with e | e | e | e
    · exact h1 e
    · exact h2 e
    · exact h3 e
    · exact h5 e, fun e => h5 (h4 k e)⟩⟩
theorem Chg.frn {W W' : World} {b db vb c : Nat} {pv : Value} (hc : Chg c W W') (hQ : c = b ∨ c = db ∨ c = vb) : Frn b db vb pv W pv W' :=
  ⟨hc.size, fun k hk h1 h2 h3 h5 => ⟨hc.block k hk fun hq => by
    rcases hQ with e | e | e
    · exact h1 (hq.trans e)
    · exact h2 (hq.trans e)
    · exact h3 (hq.trans e), h5⟩⟩
theorem run_app_at {P : Program} {α : Type} {k : Nat} {enc : α → List Value} {t e : TypeId} {z : Value} {bytes : Nat} (ty : TypeId) (ht : P.underlying t = some (.slice e)) (hinfo : (P.info? e).map (fun i => (i.zero, i.size, i.bytes)) = some (some z, k, bytes)) (hzs : z.cells.size = k) (h0 : 0 < k)
    (hk : ∀ x, (enc x).length = k) (hone : ∀ x, ∀ u ∈ enc x, u.oneCell' = true) {W : World} {B : Nat} {v y : Value} {l m : List α} (hown : W.ownsRow B e k v l.length (rowCells enc l)) (hB : B ≤ W.heap.size) (hy : RowV k enc W y m)
    (hlen : l.length + m.length ≤ maxLen) (hby : (l.length + m.length) * bytes ≤ 140737488355328) :
    ∃ v' W', (Builtin.append_ #[t, t] ty #[v, y]).run P W = .ok v' W' ∧ W'.ownsRow B e k v' (l ++ m).length (rowCells enc (l ++ m)) ∧ Below B W W' ∧ W.grownBy W' v.ownBlock ∧ (v'.ownBlock = v.ownBlock ∨ v'.ownBlock = some W.heap.size) := by
  obtain ⟨i0, hi, hz0, hz1, hz2⟩ := info_parts hinfo
  obtain ⟨a, c, rfl, _, ha⟩ := hy
  cases a with
  | some ad =>
    have hnews : ∀ j u, (rowCells enc m)[j]? = some u → W.cell? (ad.add j) = some u := by
      rcases ha with rfl | ⟨b, o, hab, _, hc⟩
      · intro j u hj; simp [rowCells] at hj
      · cases hab
        exact rowV_cells hk h0 hc
    obtain ⟨v', w3, hr, h2, h3, _, h6⟩ := run_append_own_at (P := P) W B t ty e i0 z k bytes ht hi hz0 hz1 hz2 hzs h0 v l.length (rowCells enc l) hown ad m.length c (rowCells enc m) (rowCells_len hk m) hnews (rowCells_one hone m) hlen hby hB
    refine ⟨v', w3, hr, ?_, (Below.refl B W).grown h3 hB (fun k hk => (hown.lt k hk).1), h3, h6⟩
    rw [rowCells_append, List.length_append]
    exact h2
  | none =>
    obtain rfl : m = [] := by
      rcases ha with rfl | ⟨b, o, hab, _⟩
      · rfl
      · cases hab
    have hown2 := hown
    rcases hown.2 with ⟨rfl, h00⟩ | ⟨g, cap, cur, rfl, _, hg, hn, _⟩
    · obtain rfl := List.length_eq_zero_iff.1 h00
      refine ⟨.slice none 0 0, W, ?_, by simpa using hown2, Below.refl _ _, ⟨rfl, rfl, rfl, Nat.le_refl _, fun _ _ _ => rfl⟩, .inl rfl⟩
      have hs : Src P i0.size t (.slice none 0 c) 0 [] W := Src.ofNil W ht c
      simp [Builtin.append_, run_underlying ht, sizeOf, typeInfo, hi, hs.len, hs.cells]
    · have hr := run_append_room_src (P := P) W t t ty e i0 ht hi g 0 l.length cap (.slice none 0 c) 0 [] (by rw [hz1]; exact Src.ofNil W ht c) (by omega) (by simp) (by simp)
      exact ⟨_, _, hr, by simpa [World.setCells] using hown2, Below.refl _ _, ⟨rfl, rfl, rfl, Nat.le_refl _, fun _ _ _ => rfl⟩, .inl rfl⟩
theorem DiskAt.settled_dF {W W' : World} {B b n db vb : Nat} {pv pv' : Value} {S : RW.Dk} (h : DiskAt W B b n db vb pv S)
    (g1 : W'.heap[b]? = some (.cells (RW.dkl S.off (S.left : Int) (.slice (some ⟨db, 0, none⟩) n n) (.slice (some ⟨vb, 0, none⟩) n n) pv') 65 (0, 0))) (g2 : W'.ownsRow B 69 2 pv' 0 [])
    (g3 : W'.heap[db]? = some (.cells (RW.byl S.vis).toArray 5 (0, 0))) (g4 : ∀ g, pv'.ownBlock = some g → pv.ownBlock = some g) (g5 : ChgS (fun j => j = b ∨ j = db ∨ pv.ownBlock = some j) W W') :
    DiskAt W' B b n db vb pv' ⟨S.off, S.left, S.vis, S.vis, []⟩ ∧ Frn b db vb pv W pv' W' ∧ Below B W W' := by
  obtain ⟨ha1, ha2, ha3⟩ := h.apart
  have hQ : ∀ j, _ → j = b ∨ j = db ∨ j = vb ∨ pv.ownBlock = some j := fun j (hj : j = b ∨ j = db ∨ pv.ownBlock = some j) => by
    rcases hj with e | e | e
    · exact .inl e
    · exact .inr (.inl e)
    · exact .inr (.inr (.inr e))
  refine ⟨⟨g1, g3, (g5.block vb h.lt.2.2 ?_).trans h.vis, g2, h.hb, h.hd, h.hv, h.ne, h.lv, h.lv, h.hn, h.lf⟩, ChgS.frn g5 hQ g4, (ChgS.tch h g5 hQ).2⟩
  · rintro (e | e | e)
    · exact ha2 e.symm
    · exact h.ne e.symm
    · exact (ha3 _ e).2.2 rfl
theorem DiskAt.settled_vF {W W' : World} {B b n db vb : Nat} {pv pv' : Value} {S : RW.Dk} (h : DiskAt W B b n db vb pv S)
    (g1 : W'.heap[b]? = some (.cells (RW.dkl S.off (S.left : Int) (.slice (some ⟨db, 0, none⟩) n n) (.slice (some ⟨vb, 0, none⟩) n n) pv') 65 (0, 0))) (g2 : W'.ownsRow B 69 2 pv' 0 [])
    (g3 : W'.heap[vb]? = some (.cells (RW.byl S.dur).toArray 5 (0, 0))) (g4 : ∀ g, pv'.ownBlock = some g → pv.ownBlock = some g) (g5 : ChgS (fun j => j = b ∨ j = vb ∨ pv.ownBlock = some j) W W') :
    DiskAt W' B b n db vb pv' ⟨S.off, S.left, S.dur, S.dur, []⟩ ∧ Frn b db vb pv W pv' W' ∧ Below B W W' := by
  obtain ⟨ha1, ha2, ha3⟩ := h.apart
  have hQ : ∀ j, _ → j = b ∨ j = db ∨ j = vb ∨ pv.ownBlock = some j := fun j (hj : j = b ∨ j = vb ∨ pv.ownBlock = some j) => by
    rcases hj with e | e | e
    · exact .inl e
    · exact .inr (.inr (.inl e))
    · exact .inr (.inr (.inr e))
  refine ⟨⟨g1, (g5.block db h.lt.2.1 ?_).trans h.dur, g3, g2, h.hb, h.hd, h.hv, h.ne, h.ld, h.ld, h.hn, h.lf⟩, ChgS.frn g5 hQ g4, (ChgS.tch h g5 hQ).2⟩
  · rintro (e | e | e)
    · exact ha1 e.symm
    · exact h.ne e
    · exact (ha3 _ e).2.1 rfl
theorem DiskAt.visF {W W' : World} {B b n db vb : Nat} {pv : Value} {S : RW.Dk} {l : List UInt8} (h : DiskAt W B b n db vb pv S) (h1 : W'.heap[vb]? = some (.cells (RW.byl l).toArray 5 (0, 0))) (h2 : Chg vb W W') (hl : l.length = n) :
    DiskAt W' B b n db vb pv ⟨S.off, S.left, S.dur, l, S.pend⟩ ∧ Frn b db vb pv W pv W' ∧ Below B W W' := ⟨(h.visChg h1 h2 hl).1, h2.frn (.inr (.inr rfl)), (h.visChg h1 h2 hl).2.2⟩
theorem DiskAt.durF {W W' : World} {B b n db vb : Nat} {pv : Value} {S : RW.Dk} {l : List UInt8} (h : DiskAt W B b n db vb pv S) (h1 : W'.heap[db]? = some (.cells (RW.byl l).toArray 5 (0, 0))) (h2 : Chg db W W') (hl : l.length = n) :
    DiskAt W' B b n db vb pv ⟨S.off, S.left, l, S.vis, S.pend⟩ ∧ Frn b db vb pv W pv W' ∧ Below B W W' := ⟨(h.durChg h1 h2 hl).1, h2.frn (.inr (.inl rfl)), (h.durChg h1 h2 hl).2.2⟩
theorem DiskAt.rowF {W W' : World} {B b n db vb : Nat} {pv : Value} {S : RW.Dk} {off : Bool} {left : Nat} (h : DiskAt W B b n db vb pv S) (h1 : W'.heap[b]? = some (.cells (RW.dkl off (left : Int) (.slice (some ⟨db, 0, none⟩) n n) (.slice (some ⟨vb, 0, none⟩) n n) pv) 65 (0, 0))) (h2 : Chg b W W') (hl : (left : Int) ≤ 9223372036854775807) :
    DiskAt W' B b n db vb pv ⟨off, left, S.dur, S.vis, S.pend⟩ ∧ Frn b db vb pv W pv W' ∧ Below B W W' := ⟨(h.rowChg h1 h2 hl).1, h2.frn (.inl rfl), (h.rowChg h1 h2 hl).2.2⟩
theorem diskAppF {W0 W W' : World} {B b n db vb : Nat} {pv pv0 u : Value} {S : RW.Dk} {l : List (Nat × ByteArray)} (h : DiskAt W B b n db vb pv S) (hg : W.grownBy W' pv.ownBlock) (ho : W'.ownsRow B 69 2 u l.length (rowCells RW.wrl l)) (hu : u.ownBlock = pv.ownBlock ∨ u.ownBlock = some W.heap.size) (hT : Frn b db vb pv0 W0 pv W) :
    DiskApp W' B b n db vb pv u S l ∧ Frn b db vb pv0 W0 u W' := by
  refine ⟨(diskApp h hg ho (Tch.refl b db vb W)).1, hT.trans ⟨hg.size, fun k hk _ _ _ h4 => ⟨hg.block k hk fun e => h4 e.symm, fun e => ?_⟩⟩⟩
  rcases hu with e' | e'
  · exact h4 (e'.symm.trans e)
  · rw [e'] at e
    cases e
    exact absurd hk (Nat.lt_irrefl _)
theorem DiskApp.putF {W0 W : World} {B b n db vb : Nat} {pv pv0 u : Value} {S : RW.Dk} {l : List (Nat × ByteArray)} (h : DiskApp W B b n db vb pv u S l) (hb : B ≤ b) (hd : B ≤ db) (hv : B ≤ vb) (hne : db ≠ vb) (ld : S.dur.length = n) (lv : S.vis.length = n) (hn : n ≤ 4194304) (lf : (S.left : Int) ≤ 9223372036854775807)
    (hT : Frn b db vb pv0 W0 u W) : DiskAt (W.setCell ⟨b, 4, none⟩ u) B b n db vb u ⟨S.off, S.left, S.dur, S.vis, l⟩ ∧ Frn b db vb pv0 W0 u (W.setCell ⟨b, 4, none⟩ u) :=
  ⟨(h.put hb hd hv hne ld lv hn lf (Tch.refl b db vb W)).1, hT.trans (((Chg.refl b W).set u).frn (.inl rfl))⟩
set_option maxRecDepth 10000 in
set_option maxHeartbeats 1000000 in
theorem sync_frn (B b n db vb : Nat) (pv : Value) (S : RW.Dk) (w : World) (h : DiskAt w B b n db vb pv S) :
    Calls Try.prog 23 #[.pointer (some ⟨b, 0, none⟩)] w fun e w' => e = .returned (.int .i64 S.sync.1) ∧ ∃ pv', DiskAt w' B b n db vb pv' S.sync.2 ∧ Frn b db vb pv w pv' w' ∧ Below B w w' := by
  have hC := hide (check_any b S.off S.left _ _ pv w h.row)
  have hH := hide h
  obtain ⟨r, hr⟩ : ∃ r, r = S.sync := ⟨_, rfl⟩
  rw [← hr]
  rw [RW.Dk.sync] at hr
  cases hoff : S.off
  · rw [hoff, if_neg Bool.false_ne_true] at hr
    rw [hoff] at hC
    have hrH := hide hr
    have hoffH := hide hoff
    have hSt := hide (fun W (h : DiskAt W B b n db vb pv S) => settle_any b vb db n S.off S.left _ _ pv S.vis S.dur S.pend B W h.row h.vis h.dur h.lv h.ld h.pend (Ne.symm h.ne))
    clear hr h hoff
    go_enter Try.func23, Try.ntmps23
    go_upto_region 3 with (go_at_call 28; refine hC.out.mono ?_; rintro e w' ⟨rfl, rfl⟩)
    refine wp_region_k (fun g W => 9 ∉ g → W.heap[b]? = some (.cells (RW.dkl S.off (S.left : Int) (.slice (some ⟨db, 0, none⟩) n n) (.slice (some ⟨vb, 0, none⟩) n n) pv) 65 (0, 0))) (fun W => DiskAt W B b n db vb pv S ∧ Below w.heap.size w W) [9] (.op 0 (.op 1 (.op 2 (.op 3 (.op 4 (.op 5 (.op 6 (.op 7 (.op 8 (.op 9 .nil)))))))))) (by kernel_rfl) (by kernel_rfl) (by rfl) (by kernel_rfl) (fun _ => hH.out.row) ⟨hH.out.next (Below.refl _ _).drew, (Below.refl _ _).drew⟩ ?_
    refine k_val (.pointer (some ⟨b, 0, none⟩)) (by apply opN; repeat' (first | apply OpAt.z | apply OpAt.s)) (by rfl) (by rfl) (fun _ W hS => op_mv rfl rfl) ?_
    simp only [Act.put, List.setIfInBounds_toArray, List.set_cons_zero, List.set_cons_succ]
    refine k_val (.pointer (some ⟨b, 0, none⟩)) (by apply opN; repeat' (first | apply OpAt.z | apply OpAt.s)) (by rfl) (by rfl) (fun _ W hS => op_mv rfl rfl) ?_
    simp only [Act.put, List.setIfInBounds_toArray, List.set_cons_zero, List.set_cons_succ]
    refine k_val (.pointer (some ⟨b, 0, none⟩)) (by apply opN; repeat' (first | apply OpAt.z | apply OpAt.s)) (by rfl) (by rfl) (fun _ W hS => op_nc rfl rfl) ?_
    simp only [Act.put, List.setIfInBounds_toArray, List.set_cons_zero, List.set_cons_succ]
    refine k_val (.pointer (some ⟨b, 3, none⟩)) (by apply opN; repeat' (first | apply OpAt.z | apply OpAt.s)) (by rfl) (by rfl) (fun _ W hS => op_fa_d (i := 2) (by decide) rfl rfl rfl) ?_
    simp only [Act.put, List.setIfInBounds_toArray, List.set_cons_zero, List.set_cons_succ]
    refine k_bef 9 (.slice (some ⟨vb, 0, none⟩) n n) (by apply opN; repeat' (first | apply OpAt.z | apply OpAt.s)) (by rfl) (by rfl) (by decide +kernel) (by rfl) (fun g W hg hS => op_load_by rfl rfl (cellAt (hS hg) 3)) ?_
    simp only [Act.put, List.setIfInBounds_toArray, List.set_cons_zero, List.set_cons_succ]
    refine k_val (.pointer (some ⟨b, 0, none⟩)) (by apply opN; repeat' (first | apply OpAt.z | apply OpAt.s)) (by rfl) (by rfl) (fun _ W hS => op_mv rfl rfl) ?_
    simp only [Act.put, List.setIfInBounds_toArray, List.set_cons_zero, List.set_cons_succ]
    refine k_val (.pointer (some ⟨b, 0, none⟩)) (by apply opN; repeat' (first | apply OpAt.z | apply OpAt.s)) (by rfl) (by rfl) (fun _ W hS => op_nc rfl rfl) ?_
    simp only [Act.put, List.setIfInBounds_toArray, List.set_cons_zero, List.set_cons_succ]
    refine k_val (.pointer (some ⟨b, 2, none⟩)) (by apply opN; repeat' (first | apply OpAt.z | apply OpAt.s)) (by rfl) (by rfl) (fun _ W hS => op_fa_d (i := 1) (by decide) rfl rfl rfl) ?_
    simp only [Act.put, List.setIfInBounds_toArray, List.set_cons_zero, List.set_cons_succ]
    refine k_bef 9 (.slice (some ⟨db, 0, none⟩) n n) (by apply opN; repeat' (first | apply OpAt.z | apply OpAt.s)) (by rfl) (by rfl) (by decide +kernel) (by rfl) (fun g W hg hS => op_load_by rfl rfl (cellAt (hS hg) 2)) ?_
    simp only [Act.put, List.setIfInBounds_toArray, List.set_cons_zero, List.set_cons_succ]
    refine k_step (fun K' u => K' = fun W => ∃ pv', DiskAt W B b n db vb pv' ⟨S.off, S.left, S.vis, S.vis, []⟩ ∧ Frn b db vb pv w pv' W ∧ Below B w W) (by apply opN; repeat' (first | apply OpAt.z | apply OpAt.s)) (by rfl) (by rfl) (by rfl) (fun W hC hK => ?_) ?_
    · refine op_x3 rfl rfl rfl rfl rfl (fun _ _ => rfl) ((hSt.out W hK.1).mono ?_)
      rintro e W' ⟨⟨v, rfl⟩, pv', h1, h2, h3, h4, h5⟩
      obtain ⟨k1, k2, k3⟩ := hK.1.settled_dF h1 h2 h3 h4 h5
      exact ⟨_, rfl, fun h => absurd (by simp) h, _, ⟨pv', k1, (Frn.of_below hK.2).trans k2, (hK.2.mono (Nat.le_trans hH.out.hb (Nat.le_of_lt hH.out.lt.1))).trans k3⟩, rfl⟩
    rintro _ _ rfl
    simp only [Act.put, List.setIfInBounds_toArray, List.set_cons_zero, List.set_cons_succ]
    refine k_nil ?_
    intro W hC hK
    have hKH := hide hK
    clear hC hK
    go_wp2
    go_ret
    obtain ⟨pv', k1, k2, k3⟩ := hKH.out
    rw [hoffH.out] at k1
    exact ⟨by rw [hrH.out]; rfl, pv', by rw [hrH.out]; exact k1, k2, k3⟩
  · rw [hoff, if_pos rfl] at hr
    rw [hoff] at hC
    have hrH := hide hr
    clear hr h hoff
    go_enter Try.func23, Try.ntmps23
    go_wp2_with (go_at_call 28; refine hC.out.mono ?_; rintro e w' ⟨rfl, rfl⟩)
    go_ret
    exact ⟨by rw [hrH.out]; rfl, pv, by rw [hrH.out]; exact hH.out, Frn.refl _ _ _ _ _, Below.refl _ _⟩
attribute [local go_sem ↓] ldRow_write
set_option maxRecDepth 10000 in
set_option maxHeartbeats 1000000 in
theorem write_frn (B b n db vb : Nat) (pv : Value) (S : RW.Dk) (o : Int) (s : ByteArray) (w : World) (h : DiskAt w B b n db vb pv S) (hp : S.pend.length < 1000000) (hs : s.size ≤ 9223372036854775807) :
    Calls Try.prog 21 #[.pointer (some ⟨b, 0, none⟩), .int .i64 o, .string s] w fun e w' => e = .returned (.int .i64 (S.write n o s).1) ∧ ∃ pv', DiskAt w' B b n db vb pv' (S.write n o s).2 ∧ Frn b db vb pv w pv' w' ∧ Below B w w' := by
  have hC := hide (check_any b S.off S.left _ _ pv w h.row)
  have hI := hide (inside_any b S.off S.left (some ⟨db, 0, none⟩) n n _ pv o (s.size : Int) w h.row h.hn)
  have hH := hide h
  obtain ⟨r, hr⟩ : ∃ r, r = S.write n o s := ⟨_, rfl⟩
  rw [← hr]
  rw [RW.Dk.write] at hr
  cases hoff : S.off
  · rw [hoff, if_neg Bool.false_ne_true] at hr
    rw [hoff] at hC
    cases hin : RW.insB n o (s.size : Int)
    · rw [hin] at hI
      rw [hin, if_neg Bool.false_ne_true] at hr
      have hrH := hide hr
      clear hr h hoff hin
      go_enter Try.func21, Try.ntmps21
      go_wp2_with (first
        | (go_at_call 28; refine hC.out.mono ?_; rintro e w' ⟨rfl, rfl⟩)
        | (go_at_call 29; refine hI.out.mono ?_; rintro e w' ⟨rfl, rfl⟩))
      go_ret
      exact ⟨by rw [hrH.out] <;> rfl, pv, by rw [hrH.out]; exact hH.out, Frn.refl _ _ _ _ _, Below.refl _ _⟩
    · obtain ⟨i1, i2, i3, i4⟩ := (RW.insB_iff n o _).1 hin
      rw [hin] at hI
      rw [hin, if_pos rfl] at hr
      obtain ⟨i, rfl⟩ : ∃ i : Nat, o = i := ⟨o.toNat, by omega⟩
      rw [Int.toNat_natCast] at hr
      have hi := hide (show i + s.size ≤ n by omega)
      have hrH := hide hr
      have hoffH := hide hoff
      obtain ⟨ap, cp, rfl⟩ := h.form
      obtain ⟨kp, hkp⟩ : ∃ k, k = S.pend.length := ⟨_, rfl⟩
      rw [← hkp] at hH
      have hkpH := hide hkp
      obtain ⟨wb, hwb⟩ : ∃ b, b = w.heap.size := ⟨_, rfl⟩
      have hA := hide ((Below.refl w.heap.size w).alloc (Nat.le_refl _) (.cells (RW.wrl (i, s)).toArray 69))
      have hx0 := hide (show (w.alloc (.cells (RW.wrl (i, s)).toArray 69)).heap[wb]? = some (.cells (RW.wrl (i, s)).toArray 69 (0, 0)) from newAt hwb)
      have hwbH := hide hwb
      have hpH := hide hp
      have hbl := hide (show b < wb ∧ db < wb ∧ vb < wb from hwb ▸ h.lt)
      have hle := hide (Nat.le_trans h.hb (Nat.le_of_lt h.lt.1))
      clear hr h hoff hin hkp hwb i1 i2 i3 i4 hp
      go_enter Try.func21, Try.ntmps21
      go_upto_region 7 with (first
        | (go_at_call 28; refine hC.out.mono ?_; rintro e w' ⟨rfl, rfl⟩)
        | (go_at_call 29; refine hI.out.mono ?_; rintro e w' ⟨rfl, rfl⟩)
        | (refine wpListStoreNew rfl 69 (.tmp 8) (.tmp 22) rfl (RW.wrl (i, s)).toArray rfl rfl 69 _ (write_size _) rfl rfl ?_))
      rw [← hwbH.out]
      refine gen_w (fun W => W.heap[wb]? = some (.cells (RW.wrl (i, s)).toArray 69 (0, 0)) ∧ DiskAt W B b n db vb (.slice ap kp cp) S ∧ Frn b db vb (.slice ap kp cp) w (.slice ap kp cp) W ∧ Below B w W) ⟨hx0.out, hH.out.next hA.out, Frn.of_below hA.out, hA.out.mono hle.out⟩ ?_
      rintro w1 ⟨g1, g2, g3, g4⟩
      have hx1 := hide g1
      have hd1 := hide g2
      have ht1 := hide g3
      have hb1 := hide g4
      clear g1 g2 g3 g4 hx0 hA hC hI
      refine wp_region_k (fun g W => W.heap[wb]? = some (.cells (RW.wrl (i, s)).toArray 69 (0, 0)) ∧ (10 ∉ g → W.heap[b]? = some (.cells (RW.dkl S.off (S.left : Int) (.slice (some ⟨db, 0, none⟩) n n) (.slice (some ⟨vb, 0, none⟩) n n) (.slice ap kp cp)) 65 (0, 0)))) (fun W => DiskAt W B b n db vb (.slice ap kp cp) S ∧ Frn b db vb (.slice ap kp cp) w (.slice ap kp cp) W ∧ Below B w W) [6, 7, 10] (.op 0 (.op 1 (.op 2 (.op 3 (.op 4 (.op 5 (.op 6 (.op 7 (.op 8 (.op 9 (.op 10 .nil))))))))))) (by kernel_rfl) (by kernel_rfl) (by rfl) (by kernel_rfl) ⟨hx1.out, fun _ => hd1.out.row⟩ ⟨hd1.out.next (Below.refl _ _).drew, ht1.out.trans (Frn.of_below (Below.refl _ _).drew), hb1.out.trans (Below.refl _ _).drew⟩ ?_
      refine k_val (.pointer (some ⟨b, 0, none⟩)) (by apply opN; repeat' (first | apply OpAt.z | apply OpAt.s)) (by rfl) (by rfl) (fun _ W hS => op_mv rfl rfl) ?_
      simp only [Act.put, List.setIfInBounds_toArray, List.set_cons_zero, List.set_cons_succ]
      refine k_val (.pointer (some ⟨b, 0, none⟩)) (by apply opN; repeat' (first | apply OpAt.z | apply OpAt.s)) (by rfl) (by rfl) (fun _ W hS => op_mv rfl rfl) ?_
      simp only [Act.put, List.setIfInBounds_toArray, List.set_cons_zero, List.set_cons_succ]
      refine k_val (.pointer (some ⟨b, 0, none⟩)) (by apply opN; repeat' (first | apply OpAt.z | apply OpAt.s)) (by rfl) (by rfl) (fun _ W hS => op_nc rfl rfl) ?_
      simp only [Act.put, List.setIfInBounds_toArray, List.set_cons_zero, List.set_cons_succ]
      refine k_val (.pointer (some ⟨b, 4, none⟩)) (by apply opN; repeat' (first | apply OpAt.z | apply OpAt.s)) (by rfl) (by rfl) (fun _ W hS => op_fa_d (i := 3) (by decide) rfl rfl rfl) ?_
      simp only [Act.put, List.setIfInBounds_toArray, List.set_cons_zero, List.set_cons_succ]
      refine k_bef 10 (.slice ap kp cp) (by apply opN; repeat' (first | apply OpAt.z | apply OpAt.s)) (by rfl) (by rfl) (by decide +kernel) (by rfl) (fun g W hg hS => op_load_ws rfl rfl (cellAt (hS.2 hg) 4)) ?_
      simp only [Act.put, List.setIfInBounds_toArray, List.set_cons_zero, List.set_cons_succ]
      refine k_val (.agg (RW.wrl (i, s)).toArray) (by apply opN; repeat' (first | apply OpAt.z | apply OpAt.s)) (by rfl) (by rfl) (fun _ W hS => op_load_w rfl rfl (write_ldAt hS.1)) ?_
      simp only [Act.put, List.setIfInBounds_toArray, List.set_cons_zero, List.set_cons_succ]
      refine k_step (fun K' u => ∃ g, u = .slice (some ⟨g, 0, none⟩) 1 1 ∧ K' = fun W => (DiskAt W B b n db vb (.slice ap kp cp) S ∧ Frn b db vb (.slice ap kp cp) w (.slice ap kp cp) W ∧ Below B w W) ∧ RowV 2 RW.wrl W u [(i, s)]) (by apply opN; repeat' (first | apply OpAt.z | apply OpAt.s)) (by rfl) (by rfl) (by rfl) (fun W hC hK => ?_) ?_
      · rw [op_bs_w rfl rfl]
        have hA := (Below.refl W.heap.size W).alloc (Nat.le_refl _) (.cells (RW.wrl (i, s)).toArray 69)
        have hl : RowV 2 RW.wrl (W.alloc (.cells (rowCells RW.wrl [(i, s)]).toArray 69)) (.slice (some ⟨W.heap.size, 0, none⟩) 1 1) [(i, s)] := rows_lit W 69 wrl_len [(i, s)]
        rw [show rowCells RW.wrl [(i, s)] = RW.wrl (i, s) by rw [rowCells, List.flatMap_cons, List.flatMap_nil, List.append_nil]] at hl
        exact ⟨⟨(hA.block _ (Array.getElem?_eq_some_iff.1 hC.1).1).trans hC.1, fun _ => (hK.1.next hA).row⟩, _, ⟨⟨hK.1.next hA, hK.2.1.trans (Frn.of_below hA), hK.2.2.trans (hA.mono (Nat.le_trans hK.1.hb (Nat.le_of_lt hK.1.lt.1)))⟩, hl⟩, W.heap.size, rfl, rfl⟩
      rintro _ _ ⟨g6, rfl, rfl⟩
      simp only [Act.put, List.setIfInBounds_toArray, List.set_cons_zero, List.set_cons_succ]
      refine k_step (fun K' u => ∃ a k c, u = .slice a k c ∧ K' = fun W => DiskApp W B b n db vb (.slice ap kp cp) u S (S.pend ++ [(i, s)]) ∧ Frn b db vb (.slice ap kp cp) w u W ∧ Below B w W) (by apply opN; repeat' (first | apply OpAt.z | apply OpAt.s)) (by rfl) (by rfl) (by rfl) (fun W hC hK => ?_) ?_
      · obtain ⟨v', W', h1, h2, h3, h4, h6⟩ := run_app_at (P := Try.prog) 63 Try.underlying63 write_info (by rfl) (by decide) wrl_len wrl_one hK.1.1.pend (Nat.le_trans hK.1.1.hb (Nat.le_of_lt hK.1.1.lt.1)) hK.2 (by have := hpH.out; unfold maxLen; simp; omega) (by have := hpH.out; simp; omega)
        obtain ⟨a, c, rfl⟩ : ∃ a c, v' = .slice a (S.pend ++ [(i, s)]).length c := by
          rcases h2.2 with ⟨rfl, h0⟩ | ⟨g, cap, cur, rfl, _⟩
          · exact ⟨none, 0, by rw [h0]⟩
          · exact ⟨_, _, rfl⟩
        obtain ⟨k1, k2⟩ := diskAppF hK.1.1 h4 h2 h6 hK.1.2.1
        rw [op_app rfl rfl rfl h1]
        refine ⟨⟨?_, fun _ => k1.row⟩, _, ⟨k1, k2, hK.1.2.2.trans h3⟩, a, _, c, rfl, rfl⟩
        refine (h4.block wb (Array.getElem?_eq_some_iff.1 hC.1).1 fun e => ?_).trans hC.1
        exact absurd (hH.out.pend.lt wb e.symm).2 (by rw [← hwbH.out]; exact Nat.lt_irrefl _)
      rintro _ _ ⟨a7, k7, c7, rfl, rfl⟩
      simp only [Act.put, List.setIfInBounds_toArray, List.set_cons_zero, List.set_cons_succ]
      refine k_val (.pointer (some ⟨b, 0, none⟩)) (by apply opN; repeat' (first | apply OpAt.z | apply OpAt.s)) (by rfl) (by rfl) (fun _ W hS => op_nc rfl rfl) ?_
      simp only [Act.put, List.setIfInBounds_toArray, List.set_cons_zero, List.set_cons_succ]
      refine k_val (.pointer (some ⟨b, 4, none⟩)) (by apply opN; repeat' (first | apply OpAt.z | apply OpAt.s)) (by rfl) (by rfl) (fun _ W hS => op_fa_d (i := 3) (by decide) rfl rfl rfl) ?_
      simp only [Act.put, List.setIfInBounds_toArray, List.set_cons_zero, List.set_cons_succ]
      refine k_step (fun K' u => u = undef ∧ K' = fun W => DiskAt W B b n db vb (.slice a7 k7 c7) ⟨S.off, S.left, S.dur, S.vis, S.pend ++ [(i, s)]⟩ ∧ Frn b db vb (.slice ap kp cp) w (.slice a7 k7 c7) W ∧ Below B w W) (by apply opN; repeat' (first | apply OpAt.z | apply OpAt.s)) (by rfl) (by rfl) (by rfl) (fun W hC hK => ?_) ?_
      · rw [op_store_ws rfl rfl rfl (cellAt hK.1.row 4) (by simp [World.frozen?, hK.1.row])]
        obtain ⟨k1, k2⟩ := hK.1.putF hH.out.hb hH.out.hd hH.out.hv hH.out.ne hH.out.ld hH.out.lv hH.out.hn hH.out.lf hK.2.1
        exact ⟨⟨(Below.heap_setCell _ _ _ _ (by show wb ≠ b; exact Ne.symm (Nat.ne_of_lt hbl.out.1))).trans hC.1, fun h => absurd (by simp) h⟩, _, ⟨k1, k2, hK.2.2.setCell (p := ⟨b, 4, none⟩) hH.out.hb _⟩, rfl, rfl⟩
      rintro _ _ ⟨rfl, rfl⟩
      simp only [Act.put]
      refine k_nil ?_
      intro W hC hK
      have hx2 := hide hC.1
      have hK2 := hide hK
      clear hC hK hd1 ht1 hb1 hx1
      go_upto_region 8 with fail
      have hOn := hide (fun W (h : DiskAt W B b n db vb (.slice a7 k7 c7) ⟨S.off, S.left, S.dur, S.vis, S.pend ++ [(i, s)]⟩) => onto_any i s vb n S.vis W h.vis h.lv hi.out h.hn)
      refine wp_region_k (fun _ W => W.heap[wb]? = some (.cells (RW.wrl (i, s)).toArray 69 (0, 0)) ∧ W.heap[b]? = some (.cells (RW.dkl S.off (S.left : Int) (.slice (some ⟨db, 0, none⟩) n n) (.slice (some ⟨vb, 0, none⟩) n n) (.slice a7 k7 c7)) 65 (0, 0))) (fun W => DiskAt W B b n db vb (.slice a7 k7 c7) ⟨S.off, S.left, S.dur, S.vis, S.pend ++ [(i, s)]⟩ ∧ Frn b db vb (.slice ap kp cp) w (.slice a7 k7 c7) W ∧ Below B w W) [5] (.op 0 (.op 1 (.op 2 (.op 3 (.op 4 (.op 5 .nil)))))) (by kernel_rfl) (by kernel_rfl) (by rfl) (by kernel_rfl) ⟨hx2.out, hK2.out.1.row⟩ ⟨hK2.out.1.next (Below.refl _ _).drew, hK2.out.2.1.trans (Frn.of_below (Below.refl _ _).drew), hK2.out.2.2.trans (Below.refl _ _).drew⟩ ?_
      refine k_val (.agg (RW.wrl (i, s)).toArray) (by apply opN; repeat' (first | apply OpAt.z | apply OpAt.s)) (by rfl) (by rfl) (fun _ W hS => op_load_w rfl rfl (write_ldAt hS.1)) ?_
      simp only [Act.put, List.setIfInBounds_toArray, List.set_cons_zero, List.set_cons_succ]
      refine k_val (.pointer (some ⟨b, 0, none⟩)) (by apply opN; repeat' (first | apply OpAt.z | apply OpAt.s)) (by rfl) (by rfl) (fun _ W hS => op_mv rfl rfl) ?_
      simp only [Act.put, List.setIfInBounds_toArray, List.set_cons_zero, List.set_cons_succ]
      refine k_val (.pointer (some ⟨b, 0, none⟩)) (by apply opN; repeat' (first | apply OpAt.z | apply OpAt.s)) (by rfl) (by rfl) (fun _ W hS => op_nc rfl rfl) ?_
      simp only [Act.put, List.setIfInBounds_toArray, List.set_cons_zero, List.set_cons_succ]
      refine k_val (.pointer (some ⟨b, 3, none⟩)) (by apply opN; repeat' (first | apply OpAt.z | apply OpAt.s)) (by rfl) (by rfl) (fun _ W hS => op_fa_d (i := 2) (by decide) rfl rfl rfl) ?_
      simp only [Act.put, List.setIfInBounds_toArray, List.set_cons_zero, List.set_cons_succ]
      refine k_val (.slice (some ⟨vb, 0, none⟩) n n) (by apply opN; repeat' (first | apply OpAt.z | apply OpAt.s)) (by rfl) (by rfl) (fun _ W hS => op_load_by rfl rfl (cellAt hS.2 3)) ?_
      simp only [Act.put, List.setIfInBounds_toArray, List.set_cons_zero, List.set_cons_succ]
      refine k_step (fun K' u => K' = fun W => DiskAt W B b n db vb (.slice a7 k7 c7) ⟨S.off, S.left, S.dur, RW.lay S.vis i s.data.toList, S.pend ++ [(i, s)]⟩ ∧ Frn b db vb (.slice ap kp cp) w (.slice a7 k7 c7) W ∧ Below B w W) (by apply opN; repeat' (first | apply OpAt.z | apply OpAt.s)) (by rfl) (by rfl) (by rfl) (fun W hC hK => ?_) ?_
      · refine op_x2 rfl rfl rfl rfl (fun _ _ => rfl) ((hOn.out W hK.1).mono ?_)
        rintro e W' ⟨⟨v, rfl⟩, h1, h2⟩
        obtain ⟨k1, k2, k3⟩ := hK.1.visF h1 h2 (by rw [lay_len (by rw [hK.1.lv, Array.length_toList]; exact hi.out)]; exact hK.1.lv)
        exact ⟨_, rfl, ⟨(h2.block wb (Array.getElem?_eq_some_iff.1 hC.1).1 (Ne.symm (Nat.ne_of_lt hbl.out.2.2))).trans hC.1, k1.row⟩, _, ⟨k1, hK.2.1.trans k2, hK.2.2.trans k3⟩, rfl⟩
      rintro _ _ rfl
      simp only [Act.put, List.setIfInBounds_toArray, List.set_cons_zero, List.set_cons_succ]
      refine k_nil ?_
      intro W hC hK
      have hK3 := hide hK
      have hUs := hide (used_any b S.off S.left _ _ (.slice a7 k7 c7) W hK.1.lf hK.1.row)
      clear hC hK hOn hK2 hx2
      go_wp2_with (go_at_call 36; refine hUs.out.mono ?_; rintro e w9 ⟨⟨v9, rfl⟩, h1, h2⟩; have h1H := hide h1; have h2H := hide h2; clear h1 h2)
      go_ret
      obtain ⟨k1, k2, k3⟩ := hK3.out.1.rowF h1H.out h2H.out (used_le hK3.out.1.lf)
      exact ⟨by rw [hrH.out] <;> rfl, .slice a7 k7 c7, by rw [hrH.out, ← hoffH.out]; exact k1, by rw [← hkpH.out]; exact hK3.out.2.1.trans k2, hK3.out.2.2.trans k3⟩
  · rw [hoff, if_pos rfl] at hr
    rw [hoff] at hC
    have hrH := hide hr
    clear hr h hoff
    go_enter Try.func21, Try.ntmps21
    go_wp2_with (go_at_call 28; refine hC.out.mono ?_; rintro e w' ⟨rfl, rfl⟩)
    go_ret
    exact ⟨by rw [hrH.out] <;> rfl, pv, by rw [hrH.out]; exact hH.out, Frn.refl _ _ _ _ _, Below.refl _ _⟩
attribute [local go_sem ↓] ldSt_power
set_option maxRecDepth 10000 in
set_option maxHeartbeats 2000000 in
theorem crash_frn (B b n db vb : Nat) (pv : Value) (S : RW.Dk) (kv : Value) (keep : List Int) (torn : Int) (w : World) (h : DiskAt w B b n db vb pv S) (hok : S.ok n) (hkl : keep.length ≤ 1000000) (hI : IntsB w.heap.size w kv keep) :
    Calls Try.prog 25 #[.pointer (some ⟨b, 0, none⟩), kv, .int .i64 torn] w fun e w' => e = .returned (.int .i64 0) ∧ ∃ pv', DiskAt w' B b n db vb pv' (S.crash keep torn) ∧ Frn b db vb pv w pv' w' ∧ Below B w w' := by
  obtain ⟨ap, cp, rfl⟩ := h.form
  obtain ⟨kp, hkp⟩ : ∃ k, k = S.pend.length := ⟨_, rfl⟩
  have hH := hide h
  rw [← hkp] at hH
  have hkpH := hide hkp
  obtain ⟨ak, ck, rfl, hIk⟩ := hI
  obtain ⟨nk, hnk⟩ : ∃ k, k = keep.length := ⟨_, rfl⟩
  have hIH := hide (show IntsB w.heap.size w (.slice ak nk ck) keep from ⟨ak, ck, by rw [hnk], hIk⟩)
  have hklH := hide hkl
  have hokH := hide hok
  have hVal := hide (fun W => values_any ak nk ck W)
  obtain ⟨xb, hxb⟩ : ∃ x, x = w.heap.size := ⟨_, rfl⟩
  have hA0 := hide (show Below xb w (w.alloc (.cells #[.pointer (some ⟨b, 0, none⟩)] 23)) by rw [hxb]; exact (Below.refl _ w).alloc (Nat.le_refl _) _)
  have hx0 := hide (show (w.alloc (.cells #[.pointer (some ⟨b, 0, none⟩)] 23)).heap[xb]? = some (.cells #[.pointer (some ⟨b, 0, none⟩)] 23 (0, 0)) from newAt hxb)
  have hxbH := hide hxb
  have hbl := hide (show b < xb by rw [hxb]; exact h.lt.1)
  have hle := hide (show B ≤ xb by rw [hxb]; exact Nat.le_trans h.hb (Nat.le_of_lt h.lt.1))
  rw [← hnk]
  clear h hIk hkp hkl hok hxb hnk
  go_enter Try.func25, Try.ntmps25
  go_upto_region 1 with fail
  rw [← hxbH.out]
  refine gen_w (fun W => W.heap[xb]? = some (.cells #[.pointer (some ⟨b, 0, none⟩)] 23 (0, 0)) ∧ Below xb w W) ⟨hx0.out, hA0.out⟩ ?_
  clear hx0 hA0
  rintro w1 ⟨g1, g2⟩
  have hx1 := hide g1
  have hB1 := hide g2
  have cx1 : w1.cell? ⟨xb, 0, none⟩ = some (.pointer (some ⟨b, 0, none⟩)) := cellAt g1 0
  have hlt1 := hide (Array.getElem?_eq_some_iff.1 g1).1
  clear g1 g2
  go_upto_region 4 with (first
    | (go_at_call 40; refine (hVal.out _).mono ?_; rintro e w2 ⟨rfl, hw2⟩; have hA2 := hide (show Below w1.heap.size w1 w2 by rw [hw2]; exact (Below.refl _ w1).alloc (Nat.le_refl _) _); have hk2 := hide (show w2.cell? ⟨w1.heap.size, 0, none⟩ = some (.slice ak nk ck) by rw [hw2, cellAt (newAt rfl)]; rfl); have hs2 := hide (show w1.heap.size < w2.heap.size by rw [hw2]; simp); clear hw2)
    | (go_at_call 39; refine (sorted_values w1.heap.size _ keep hklH.out w2 hs2.out hk2.out (hIH.out.lift ((hxbH.out ▸ hB1.out : Below w.heap.size w w1).trans (hA2.out.mono (hxbH.out ▸ Nat.le_of_lt hlt1.out))) (by rw [← hxbH.out]; exact Nat.le_trans (Nat.le_of_lt hlt1.out) (Nat.le_of_lt hs2.out)))).mono ?_; rintro e w3 ⟨v3, rfl, h3, hB3⟩; have h3H := hide h3; have hB3H := hide hB3; clear h3 hB3)
    | (go_at_call 38; refine (compact_own h3H.out (by rw [List.length_mergeSort]; exact hklH.out)).mono ?_; rintro e w4 ⟨v4, rfl, h4, h4o, h4c⟩; have h4H := hide h4; have h4cH := hide h4c; clear h4 h4o h4c))
  have hB24 := hide (hB3H.out.trans (⟨h4cH.out.os, h4cH.out.tape, h4cH.out.output, h4cH.out.size, fun k hk => h4cH.out.block k (Nat.lt_of_lt_of_le hk hB3H.out.size) fun e => by have := (h3H.out.lt k e).1; omega⟩ : Below w2.heap.size w3 w4))
  have hB4 := hide ((hB1.out.trans (hA2.out.mono (Nat.le_of_lt hlt1.out))).trans (hB24.out.mono (Nat.le_trans (Nat.le_of_lt hlt1.out) (Nat.le_of_lt hs2.out))) : Below xb w w4)
  have hx4 := hide ((hB24.out.block xb (Nat.lt_trans hlt1.out hs2.out)).trans ((hA2.out.block xb hlt1.out).trans hx1.out))
  have hd4 := hide (hH.out.next (hxbH.out ▸ hB4.out))
  obtain ⟨B5, hB5e⟩ : ∃ x, x = w2.heap.size := ⟨_, rfl⟩
  have hB5H := hide (show xb < B5 by rw [hB5e]; exact Nat.lt_trans hlt1.out hs2.out)
  rw [← hB5e] at h4H
  have hsz4 := hide (show B5 ≤ w4.heap.size by rw [hB5e]; exact hB24.out.size)
  have hDl := hide (delete_own h4H.out (Nat.le_trans (compact_len _) (by rw [List.length_mergeSort]; exact hklH.out)) kp xb b ap cp (Nat.lt_of_lt_of_le hB5H.out hsz4.out) (Nat.lt_of_lt_of_le (Nat.lt_trans hbl.out hB5H.out) hsz4.out)
    (fun g hg => by have h1 := (h4H.out.lt g hg).1; have h2 := hB5H.out; have h3 := hbl.out; exact ⟨by omega, by omega⟩) (cellAt hx4.out 0) (cellAt hd4.out.row 4))
  clear hB5e h3H hB3H h4cH hB24 hk2 hs2 hA2 hB1 hx1 hlt1 cx1 hIH hVal
  obtain ⟨ord, hord⟩ : ∃ o, o = RW.survive kp keep := ⟨_, rfl⟩
  rw [show (Lib.compact (keep.mergeSort fun x y => decide (x ≤ y))).filter (fun x => !outB kp x) = ord from hord.symm] at hDl
  have hordH := hide hord
  clear hord
  go_upto_region 5 with (go_at_call 41; refine hDl.out.mono ?_; rintro e w5 ⟨v5, rfl, h5, h5c⟩; have h5H := hide h5; have hB45 := hide (⟨h5c.os, h5c.tape, h5c.output, h5c.size, fun k hk => h5c.block k (Nat.lt_of_lt_of_le hk hsz4.out) fun e => by have := (h4H.out.lt k e).1; omega⟩ : Below B5 w4 w5); clear h5 h5c)
  have hB5w := hide ((hB4.out.trans (hB45.out.mono (Nat.le_of_lt hB5H.out))) : Below xb w w5)
  have hx5 := hide ((hB45.out.block xb hB5H.out).trans hx4.out)
  have hd5 := hide (hH.out.next (hxbH.out ▸ hB5w.out))
  have hnl := RW.survive_len kp keep
  rw [← hordH.out] at hnl
  have hordl := hide (show ord.length ≤ 1000000 from Nat.le_trans hnl hklH.out)
  obtain ⟨a5, c5, rfl⟩ : ∃ a c, v5 = .slice a ord.length c := by
    rcases h5H.out.2 with ⟨rfl, h0⟩ | ⟨g, cap, cur, rfl, _⟩
    · exact ⟨none, 0, by rw [h0]⟩
    · exact ⟨_, _, rfl⟩
  obtain ⟨N, hN⟩ : ∃ k, k = ord.length := ⟨_, rfl⟩
  have hNH := hide hN
  rw [← hN] at hordl
  have h5N := hide (show IntsO w5 B5 (.slice a5 N c5) ord by rw [hN]; exact h5H.out)
  obtain ⟨T, hT⟩ : ∃ T, T = RW.crFold S.pend torn N 0 ord S.dur := ⟨_, rfl⟩
  have hTH := hide hT
  rw [← hN]
  have hTc := hide (Frn.of_below (b := b) (db := db) (vb := vb) (pv := (.slice ap kp cp)) (hxbH.out ▸ hB5w.out : Below w.heap.size w w5))
  have hBw := hide (hB5w.out.mono hle.out)
  clear hDl hB4 hx4 hd4 hB45 h4H hsz4 h5H hN hT hnl hB5w
  go_wp2
  go_loopw [22] (fun i wr => ∃ m : Nat, i = .int .i64 m ∧ m ≤ N ∧ Hid (∃ dd, DiskAt wr B b n db vb (.slice ap kp cp) ⟨S.off, S.left, dd, S.vis, S.pend⟩ ∧ RW.crFold S.pend torn N m (ord.drop m) dd = T ∧ wr.heap[xb]? = some (.cells #[.pointer (some ⟨b, 0, none⟩)] 23 (0, 0)) ∧ IntsO wr B5 (.slice a5 N c5) ord ∧ Frn b db vb (.slice ap kp cp) w (.slice ap kp cp) wr ∧ Below B w wr)) (fun i _ => N - (intOf i).toNat)
  case atStart => exact ⟨0, rfl, Nat.zero_le _, S.dur, hd5.out, by rw [List.drop_zero]; exact hTH.out.symm, hx5.out, h5N.out, hTc.out, hBw.out⟩
  case round =>
    obtain ⟨m, rfl, hmN, hQ⟩ := hrel
    obtain ⟨dd, hd, hfold, hx, hO, hTw, hBw2⟩ := hQ.out
    have hdH := hide hd
    have hxH := hide hx
    have hOH := hide hO
    have hTwH := hide hTw
    have hBw2H := hide hBw2
    have hfoldH := hide hfold
    have cx : wr.cell? ⟨xb, 0, none⟩ = some (.pointer (some ⟨b, 0, none⟩)) := cellAt hx 0
    have c4 : wr.cell? ⟨b, 4, none⟩ = some (.slice ap kp cp) := cellAt hd.row 4
    clear hQ hd hfold hx hO hTw hBw2
    by_cases hlt : m < N
    · obtain ⟨ix, hix⟩ : ∃ x, ord[m]? = some x := ⟨_, List.getElem?_eq_getElem (by rw [← hNH.out]; exact hlt)⟩
      have hir := RW.survive_in (k := kp) (keep := keep) (by rw [← hordH.out]; exact List.mem_of_getElem? hix)
      obtain ⟨ii, rfl⟩ : ∃ ii : Nat, ix = ii := ⟨ix.toNat, by omega⟩
      have hik : ii < kp := by omega
      have hdrop := hide (show ord.drop m = (ii : Int) :: ord.drop (m + 1) by rw [List.drop_eq_getElem_cons (by rw [← hNH.out]; exact hlt), (List.getElem?_eq_some_iff.1 hix).2])
      obtain ⟨x, hxp⟩ : ∃ x, S.pend[ii]? = some x := ⟨_, List.getElem?_eq_getElem (by rw [← hkpH.out]; exact hik)⟩
      have hxpH := hide hxp
      have hbx := hide (hokH.out x (List.mem_of_getElem? hxp))
      have hrow := rowV_own (enc := RW.wrl) wrl_len (by decide) hdH.out.pend
      obtain ⟨g, o, cap, he, _, _, hrgs⟩ := hrow.at (by rintro e; rw [e] at hxp; simp at hxp)
      obtain ⟨rfl, rfl⟩ : ap = some ⟨g, o, none⟩ ∧ cp = cap := by injection he; exact ⟨by assumption, by assumption⟩
      have hrg := hrgs ii x hxp
      have hOr : RowV 1 (fun z => [Value.int .i64 z]) wr (.slice a5 N c5) ord := rowV_own (B := B5) (e := 3) (n := ord.length) (fun _ => rfl) (by decide) (by rw [intCells]; exact hOH.out)
      obtain ⟨g5, o5, cap5, he5, _, _, hrgs5⟩ := hOr.at (by rintro e; rw [e] at hix; simp at hix)
      obtain ⟨rfl, rfl⟩ : a5 = some ⟨g5, o5, none⟩ ∧ c5 = cap5 := by injection he5; exact ⟨by assumption, by assumption⟩
      have ci : wr.cell? ⟨g5, o5 + m, none⟩ = some (.int .i64 (ii : Int)) := by
        have := hrgs5 m _ hix 0 _ rfl
        simpa using this
      have hps := write_size x
      have hl2 := wrl_len x
      obtain ⟨wb, hwb⟩ : ∃ k, k = wr.heap.size := ⟨_, rfl⟩
      have hwbH := hide hwb
      have hA := hide ((Below.refl wr.heap.size wr).alloc (Nat.le_refl _) (.cells (RW.wrl x).toArray 69))
      have hg0 := hide (show (wr.alloc (.cells (RW.wrl x).toArray 69)).heap[wb]? = some (.cells (RW.wrl x).toArray 69 (0, 0)) from newAt hwb)
      have hown := hide (show ∀ k, (Value.slice (some ⟨g, o, none⟩) kp cp).ownBlock = some k → k < wb from fun k hk => by rw [hwb]; exact (hdH.out.pend.lt k hk).2)
      have hl3 := hide (show b < wb ∧ db < wb ∧ vb < wb ∧ xb < wb ∧ g5 < wb by
        rw [hwb]
        exact ⟨hdH.out.lt.1, hdH.out.lt.2.1, hdH.out.lt.2.2, (Array.getElem?_eq_some_iff.1 hxH.out).1, (hOH.out.lt g5 rfl).2⟩)
      clear hwb hxp hrow he hrgs hOr he5 hrgs5 hix hir
      go_upto_region 9 with (first
        | (refine wpList_load_mid rfl 69 (.tmp 32) rfl g (o + ii * 2) rfl (RW.wrl x) _ hrg Try.underlying69 rfl hps ?_)
        | (refine wpListStoreNew rfl 69 (.tmp 10) (.tmp 33) rfl (RW.wrl x).toArray rfl rfl 69 _ hps rfl (wrl_oneA x) ?_))
      rw [← hwbH.out]
      refine gen_w (fun W => W.heap[wb]? = some (.cells (RW.wrl x).toArray 69 (0, 0)) ∧ Below wb wr W) ⟨hg0.out, by rw [hwbH.out]; exact hA.out⟩ ?_
      clear hg0 hA hrg ci cx c4 hps
      rintro w6 ⟨g1, g2⟩
      have hx6 := hide g1
      have hB6 := hide g2
      have e0 : w6.cell? ⟨wb, 0, none⟩ = some (.int .i64 (x.1 : Int)) := cellAt g1 0
      have e1 : w6.cell? ⟨wb, 1, none⟩ = some (.string x.2) := cellAt g1 1
      have hfz : w6.frozen? ⟨wb, 1, none⟩ = false := by simp [World.frozen?, g1]
      clear g1 g2
      simp only [Act.put]
      obtain ⟨q, hq⟩ : ∃ q : Bool, q = decide (m + 1 = N ∧ 0 ≤ torn) := ⟨_, rfl⟩
      have hqH := hide hq
      clear hq
      have hN1 : 1 ≤ N := by omega
      have hNb : N ≤ 1000000 := hordl.out
      go_cut [42] (fun s wx => s = .bool q ∧ wx = w6)
      case first =>
        by_cases hmN1 : m + 1 = N
        · have hb : ((m : Int) == (N : Int) - 1) = true := by rw [beq_iff_eq]; omega
          by_cases ht0 : 0 ≤ torn
          · have e := hide (show q = true by rw [hqH.out, decide_eq_true ⟨hmN1, ht0⟩])
            clear hmN1
            go_wp2
            all_goals go_meet
            all_goals exact ⟨by rw [e.out] <;> rfl, rfl⟩
          · have e := hide (show q = false by rw [hqH.out, decide_eq_false fun h => ht0 h.2])
            clear hmN1
            go_wp2
            all_goals go_meet
            all_goals exact ⟨by rw [e.out] <;> rfl, rfl⟩
        · have hb : ((m : Int) == (N : Int) - 1) = false := by rw [beq_eq_false_iff_ne]; omega
          have e := hide (show q = false by rw [hqH.out, decide_eq_false fun h => hmN1 h.1])
          clear hmN1
          go_wp2
          all_goals go_meet
          all_goals exact ⟨by rw [e.out] <;> rfl, rfl⟩
      case rest =>
      obtain ⟨rfl, hwx⟩ := hcut
      have hwx' := hwx.symm
      subst hwx'
      cases q
      · have ht1 := hide (show RW.torn1 torn N m x = x by rw [RW.torn1, if_neg (of_decide_eq_false hqH.out.symm)])
        obtain ⟨w7, hw7⟩ : ∃ w, w = w6 := ⟨_, rfl⟩
        subst hw7
        have hx7 := hx6
        have hd7 := hide (hdH.out.next (hwbH.out ▸ hB6.out))
        have hbx7 := hide ((hB6.out.block xb hl3.out.2.2.2.1).trans hxH.out)
        have hO7 := hide (own_next hOH.out (hwbH.out ▸ hB6.out))
        have hT7 := hide (hTwH.out.trans (Frn.of_below (hwbH.out ▸ hB6.out)))
        have hB7 := hide (show B ≤ w7.heap.size from Nat.le_trans hd7.out.hb (Nat.le_of_lt hd7.out.lt.1))
        have hBw7 := hide (hBw2H.out.trans (hB6.out.mono (Nat.le_trans hdH.out.hb (Nat.le_of_lt hl3.out.1))))
        have hbnd := hbx
        have hnb := hide (show wb ≠ db ∧ xb ≠ db from ⟨Ne.symm (Nat.ne_of_lt hl3.out.2.1), blocks_ne hbx7.out hd7.out.dur (by decide)⟩)
        clear e0 e1 hfz
        go_upto_region 11 with fail
        have hOn := hide (fun W (h : DiskAt W B b n db vb (.slice (some ⟨g, o, none⟩) kp cp) ⟨S.off, S.left, dd, S.vis, S.pend⟩) => onto_any x.1 x.2 db n dd W h.dur h.ld hbnd.out h.hn)
        refine wp_region_k (fun _ W => W.heap[wb]? = some (.cells (RW.wrl x).toArray 69 (0, 0)) ∧ W.heap[xb]? = some (.cells #[.pointer (some ⟨b, 0, none⟩)] 23 (0, 0)) ∧ W.heap[b]? = some (.cells (RW.dkl S.off (S.left : Int) (.slice (some ⟨db, 0, none⟩) n n) (.slice (some ⟨vb, 0, none⟩) n n) (.slice (some ⟨g, o, none⟩) kp cp)) 65 (0, 0))) (fun W => DiskAt W B b n db vb (.slice (some ⟨g, o, none⟩) kp cp) ⟨S.off, S.left, dd, S.vis, S.pend⟩ ∧ Below w7.heap.size w7 W) [5] (.op 0 (.op 1 (.op 2 (.op 3 (.op 4 (.op 5 .nil)))))) (by kernel_rfl) (by kernel_rfl) (by rfl) (by kernel_rfl) ⟨hx7.out, hbx7.out, hd7.out.row⟩ ⟨hd7.out.next (Below.refl _ _).drew, (Below.refl _ _).drew⟩ ?_
        refine k_val (.agg (RW.wrl x).toArray) (by apply opN; repeat' (first | apply OpAt.z | apply OpAt.s)) (by rfl) (by rfl) (fun _ W hS => op_load_w rfl rfl (write_ldAt hS.1)) ?_
        simp only [Act.put, List.setIfInBounds_toArray, List.set_cons_zero, List.set_cons_succ]
        refine k_val (.pointer (some ⟨b, 0, none⟩)) (by apply opN; repeat' (first | apply OpAt.z | apply OpAt.s)) (by rfl) (by rfl) (fun _ W hS => op_load_p rfl rfl (cellAt hS.2.1 0)) ?_
        simp only [Act.put, List.setIfInBounds_toArray, List.set_cons_zero, List.set_cons_succ]
        refine k_val (.pointer (some ⟨b, 0, none⟩)) (by apply opN; repeat' (first | apply OpAt.z | apply OpAt.s)) (by rfl) (by rfl) (fun _ W hS => op_nc rfl rfl) ?_
        simp only [Act.put, List.setIfInBounds_toArray, List.set_cons_zero, List.set_cons_succ]
        refine k_val (.pointer (some ⟨b, 2, none⟩)) (by apply opN; repeat' (first | apply OpAt.z | apply OpAt.s)) (by rfl) (by rfl) (fun _ W hS => op_fa_d (i := 1) (by decide) rfl rfl rfl) ?_
        simp only [Act.put, List.setIfInBounds_toArray, List.set_cons_zero, List.set_cons_succ]
        refine k_val (.slice (some ⟨db, 0, none⟩) n n) (by apply opN; repeat' (first | apply OpAt.z | apply OpAt.s)) (by rfl) (by rfl) (fun _ W hS => op_load_by rfl rfl (cellAt hS.2.2 2)) ?_
        simp only [Act.put, List.setIfInBounds_toArray, List.set_cons_zero, List.set_cons_succ]
        refine k_step (fun K' u => K' = fun W => DiskAt W B b n db vb (.slice (some ⟨g, o, none⟩) kp cp) ⟨S.off, S.left, RW.lay dd x.1 x.2.data.toList, S.vis, S.pend⟩ ∧ Frn b db vb (.slice (some ⟨g, o, none⟩) kp cp) w7 (.slice (some ⟨g, o, none⟩) kp cp) W ∧ Below B w7 W) (by apply opN; repeat' (first | apply OpAt.z | apply OpAt.s)) (by rfl) (by rfl) (by rfl) (fun W hC hK => ?_) ?_
        · refine op_x2 rfl rfl rfl rfl (fun _ _ => rfl) ((hOn.out W hK.1).mono ?_)
          rintro e W' ⟨⟨v, rfl⟩, h1, h2⟩
          obtain ⟨k1, k2, k3⟩ := hK.1.durF h1 h2 (by rw [lay_len (by rw [show dd.length = n from hK.1.ld, Array.length_toList]; exact hbnd.out)]; exact hK.1.ld)
          exact ⟨_, rfl, ⟨(h2.block wb (Array.getElem?_eq_some_iff.1 hC.1).1 hnb.out.1).trans hC.1, (h2.block xb (Array.getElem?_eq_some_iff.1 hC.2.1).1 hnb.out.2).trans hC.2.1, k1.row⟩, _, ⟨k1, (Frn.of_below hK.2).trans k2, (hK.2.mono hB7.out).trans k3⟩, rfl⟩
        rintro _ _ rfl
        simp only [Act.put, List.setIfInBounds_toArray, List.set_cons_zero, List.set_cons_succ]
        refine k_nil ?_
        intro W hC hK
        have hKH := hide hK
        have hBX := hide hC.2.1
        clear hC hK hOn
        go_wp2
        go_roundw
        case rel =>
          obtain ⟨k1, k2, k3⟩ := hKH.out
          refine ⟨m + 1, by go_num, by omega, RW.lay dd x.1 x.2.data.toList, k1, ?_, hBX.out, own_frn hO7.out hd7.out k2 (by decide), hT7.out.trans k2, hBw7.out.trans k3⟩
          have h1 := hfoldH.out
          rw [hdrop.out, RW.crFold, RW.crStep, Int.toNat_natCast, hxpH.out] at h1
          simp only [ht1.out] at h1
          exact h1
        case measure => simp [intOf]; omega
      · have hqt := of_decide_eq_true hqH.out.symm
        obtain ⟨tn, rfl⟩ : ∃ tn : Nat, torn = tn := ⟨torn.toNat, by omega⟩
        obtain ⟨kx, hkx⟩ : ∃ k, k = min tn x.2.size := ⟨_, rfl⟩
        have hkx1 : kx ≤ x.2.size := by omega
        have hkm : min (tn : Int) (x.2.size : Int) = (kx : Int) := by omega
        obtain ⟨y, hy⟩ : ∃ y : Nat × ByteArray, y = (x.1, x.2.extract 0 kx) := ⟨_, rfl⟩
        have ht1 := hide (show RW.torn1 (tn : Int) N m x = y by rw [RW.torn1, if_pos hqt, RW.tear, hy, hkx, Int.toNat_natCast])
        have hys : y.2 = x.2.extract 0 kx := by rw [hy]
        have hy1 : y.1 = x.1 := by rw [hy]
        have hbnd := hide (show y.1 + y.2.size ≤ n by rw [hys, hy1, ByteArray.size_extract]; have := hbx.out; omega)
        have hl2y := wrl_len y
        have hg7 := hide (show (w6.setCell ⟨wb, 1, none⟩ (.string (x.2.extract 0 kx))).heap[wb]? = some (.cells (RW.wrl y).toArray 69 (0, 0)) by rw [hy]; exact (heap_setCell_same _ _ _ _ _ _ hx6.out).trans rfl)
        have hB7s := hide (show Below wb wr (w6.setCell ⟨wb, 1, none⟩ (.string (x.2.extract 0 kx))) from hB6.out.setCell (p := ⟨wb, 1, none⟩) (Nat.le_refl _) _)
        clear hkx hqt hy hys hy1
        go_upto_region 11 with fail
        refine gen_w (fun W => W.heap[wb]? = some (.cells (RW.wrl y).toArray 69 (0, 0)) ∧ Below wb wr W) ⟨hg7.out, hB7s.out⟩ ?_
        clear hg7 hB7s e0 e1 hfz hB6 hx6
        rintro w7 ⟨g1, g2⟩
        have hx7 := hide g1
        have hB6 := hide g2
        clear g1 g2
        have hd7 := hide (hdH.out.next (hwbH.out ▸ hB6.out))
        have hbx7 := hide ((hB6.out.block xb hl3.out.2.2.2.1).trans hxH.out)
        have hO7 := hide (own_next hOH.out (hwbH.out ▸ hB6.out))
        have hT7 := hide (hTwH.out.trans (Frn.of_below (hwbH.out ▸ hB6.out)))
        have hB7 := hide (show B ≤ w7.heap.size from Nat.le_trans hd7.out.hb (Nat.le_of_lt hd7.out.lt.1))
        have hBw7 := hide (hBw2H.out.trans (hB6.out.mono (Nat.le_trans hdH.out.hb (Nat.le_of_lt hl3.out.1))))
        have hnb := hide (show wb ≠ db ∧ xb ≠ db from ⟨Ne.symm (Nat.ne_of_lt hl3.out.2.1), blocks_ne hbx7.out hd7.out.dur (by decide)⟩)
        have hOn := hide (fun W (h : DiskAt W B b n db vb (.slice (some ⟨g, o, none⟩) kp cp) ⟨S.off, S.left, dd, S.vis, S.pend⟩) => onto_any y.1 y.2 db n dd W h.dur h.ld hbnd.out h.hn)
        refine wp_region_k (fun _ W => W.heap[wb]? = some (.cells (RW.wrl y).toArray 69 (0, 0)) ∧ W.heap[xb]? = some (.cells #[.pointer (some ⟨b, 0, none⟩)] 23 (0, 0)) ∧ W.heap[b]? = some (.cells (RW.dkl S.off (S.left : Int) (.slice (some ⟨db, 0, none⟩) n n) (.slice (some ⟨vb, 0, none⟩) n n) (.slice (some ⟨g, o, none⟩) kp cp)) 65 (0, 0))) (fun W => DiskAt W B b n db vb (.slice (some ⟨g, o, none⟩) kp cp) ⟨S.off, S.left, dd, S.vis, S.pend⟩ ∧ Below w7.heap.size w7 W) [5] (.op 0 (.op 1 (.op 2 (.op 3 (.op 4 (.op 5 .nil)))))) (by kernel_rfl) (by kernel_rfl) (by rfl) (by kernel_rfl) ⟨hx7.out, hbx7.out, hd7.out.row⟩ ⟨hd7.out.next (Below.refl _ _).drew, (Below.refl _ _).drew⟩ ?_
        refine k_val (.agg (RW.wrl y).toArray) (by apply opN; repeat' (first | apply OpAt.z | apply OpAt.s)) (by rfl) (by rfl) (fun _ W hS => op_load_w rfl rfl (write_ldAt hS.1)) ?_
        simp only [Act.put, List.setIfInBounds_toArray, List.set_cons_zero, List.set_cons_succ]
        refine k_val (.pointer (some ⟨b, 0, none⟩)) (by apply opN; repeat' (first | apply OpAt.z | apply OpAt.s)) (by rfl) (by rfl) (fun _ W hS => op_load_p rfl rfl (cellAt hS.2.1 0)) ?_
        simp only [Act.put, List.setIfInBounds_toArray, List.set_cons_zero, List.set_cons_succ]
        refine k_val (.pointer (some ⟨b, 0, none⟩)) (by apply opN; repeat' (first | apply OpAt.z | apply OpAt.s)) (by rfl) (by rfl) (fun _ W hS => op_nc rfl rfl) ?_
        simp only [Act.put, List.setIfInBounds_toArray, List.set_cons_zero, List.set_cons_succ]
        refine k_val (.pointer (some ⟨b, 2, none⟩)) (by apply opN; repeat' (first | apply OpAt.z | apply OpAt.s)) (by rfl) (by rfl) (fun _ W hS => op_fa_d (i := 1) (by decide) rfl rfl rfl) ?_
        simp only [Act.put, List.setIfInBounds_toArray, List.set_cons_zero, List.set_cons_succ]
        refine k_val (.slice (some ⟨db, 0, none⟩) n n) (by apply opN; repeat' (first | apply OpAt.z | apply OpAt.s)) (by rfl) (by rfl) (fun _ W hS => op_load_by rfl rfl (cellAt hS.2.2 2)) ?_
        simp only [Act.put, List.setIfInBounds_toArray, List.set_cons_zero, List.set_cons_succ]
        refine k_step (fun K' u => K' = fun W => DiskAt W B b n db vb (.slice (some ⟨g, o, none⟩) kp cp) ⟨S.off, S.left, RW.lay dd y.1 y.2.data.toList, S.vis, S.pend⟩ ∧ Frn b db vb (.slice (some ⟨g, o, none⟩) kp cp) w7 (.slice (some ⟨g, o, none⟩) kp cp) W ∧ Below B w7 W) (by apply opN; repeat' (first | apply OpAt.z | apply OpAt.s)) (by rfl) (by rfl) (by rfl) (fun W hC hK => ?_) ?_
        · refine op_x2 rfl rfl rfl rfl (fun _ _ => rfl) ((hOn.out W hK.1).mono ?_)
          rintro e W' ⟨⟨v, rfl⟩, h1, h2⟩
          obtain ⟨k1, k2, k3⟩ := hK.1.durF h1 h2 (by rw [lay_len (by rw [show dd.length = n from hK.1.ld, Array.length_toList]; exact hbnd.out)]; exact hK.1.ld)
          exact ⟨_, rfl, ⟨(h2.block wb (Array.getElem?_eq_some_iff.1 hC.1).1 hnb.out.1).trans hC.1, (h2.block xb (Array.getElem?_eq_some_iff.1 hC.2.1).1 hnb.out.2).trans hC.2.1, k1.row⟩, _, ⟨k1, (Frn.of_below hK.2).trans k2, (hK.2.mono hB7.out).trans k3⟩, rfl⟩
        rintro _ _ rfl
        simp only [Act.put, List.setIfInBounds_toArray, List.set_cons_zero, List.set_cons_succ]
        refine k_nil ?_
        intro W hC hK
        have hKH := hide hK
        have hBX := hide hC.2.1
        clear hC hK hOn
        go_wp2
        go_roundw
        case rel =>
          obtain ⟨k1, k2, k3⟩ := hKH.out
          refine ⟨m + 1, by go_num, by omega, RW.lay dd y.1 y.2.data.toList, k1, ?_, hBX.out, own_frn hO7.out hd7.out k2 (by decide), hT7.out.trans k2, hBw7.out.trans k3⟩
          have h1 := hfoldH.out
          rw [hdrop.out, RW.crFold, RW.crStep, Int.toNat_natCast, hxpH.out] at h1
          simp only [ht1.out] at h1
          exact h1
        case measure => simp [intOf]; omega
    · obtain rfl : m = N := by omega
      have hdT : dd = T := by
        have h1 := hfoldH.out
        rw [List.drop_eq_nil_iff.2 (by rw [← hNH.out]; exact Nat.le_refl _), RW.crFold] at h1
        exact h1
      subst hdT
      obtain ⟨wo, hwo⟩ : ∃ wo, wo = wr := ⟨_, rfl⟩
      subst hwo
      have hSt := hide (fun W (h : DiskAt W B b n db vb (.slice ap kp cp) ⟨S.off, S.left, dd, S.vis, S.pend⟩) => settle_any b db vb n S.off S.left _ _ (.slice ap kp cp) dd S.vis S.pend B W h.row h.dur h.vis h.ld h.lv h.pend h.ne)
      clear hfoldH hOH
      go_upto_region 13 with fail
      refine wp_region_k (fun g W => W.heap[xb]? = some (.cells #[.pointer (some ⟨b, 0, none⟩)] 23 (0, 0)) ∧ (9 ∉ g → W.heap[b]? = some (.cells (RW.dkl S.off (S.left : Int) (.slice (some ⟨db, 0, none⟩) n n) (.slice (some ⟨vb, 0, none⟩) n n) (.slice ap kp cp)) 65 (0, 0)))) (fun W => DiskAt W B b n db vb (.slice ap kp cp) ⟨S.off, S.left, dd, S.vis, S.pend⟩ ∧ Below wo.heap.size wo W) [9] (.op 0 (.op 1 (.op 2 (.op 3 (.op 4 (.op 5 (.op 6 (.op 7 (.op 8 (.op 9 .nil)))))))))) (by kernel_rfl) (by kernel_rfl) (by rfl) (by kernel_rfl) ⟨hxH.out, fun _ => hdH.out.row⟩ ⟨hdH.out.next (Below.refl _ _).drew, (Below.refl _ _).drew⟩ ?_
      refine k_val (.pointer (some ⟨b, 0, none⟩)) (by apply opN; repeat' (first | apply OpAt.z | apply OpAt.s)) (by rfl) (by rfl) (fun _ W hS => op_load_p rfl rfl (cellAt hS.1 0)) ?_
      simp only [Act.put, List.setIfInBounds_toArray, List.set_cons_zero, List.set_cons_succ]
      refine k_val (.pointer (some ⟨b, 0, none⟩)) (by apply opN; repeat' (first | apply OpAt.z | apply OpAt.s)) (by rfl) (by rfl) (fun _ W hS => op_load_p rfl rfl (cellAt hS.1 0)) ?_
      simp only [Act.put, List.setIfInBounds_toArray, List.set_cons_zero, List.set_cons_succ]
      refine k_val (.pointer (some ⟨b, 0, none⟩)) (by apply opN; repeat' (first | apply OpAt.z | apply OpAt.s)) (by rfl) (by rfl) (fun _ W hS => op_nc rfl rfl) ?_
      simp only [Act.put, List.setIfInBounds_toArray, List.set_cons_zero, List.set_cons_succ]
      refine k_val (.pointer (some ⟨b, 2, none⟩)) (by apply opN; repeat' (first | apply OpAt.z | apply OpAt.s)) (by rfl) (by rfl) (fun _ W hS => op_fa_d (i := 1) (by decide) rfl rfl rfl) ?_
      simp only [Act.put, List.setIfInBounds_toArray, List.set_cons_zero, List.set_cons_succ]
      refine k_bef 9 (.slice (some ⟨db, 0, none⟩) n n) (by apply opN; repeat' (first | apply OpAt.z | apply OpAt.s)) (by rfl) (by rfl) (by decide +kernel) (by rfl) (fun g W hg hS => op_load_by rfl rfl (cellAt (hS.2 hg) 2)) ?_
      simp only [Act.put, List.setIfInBounds_toArray, List.set_cons_zero, List.set_cons_succ]
      refine k_val (.pointer (some ⟨b, 0, none⟩)) (by apply opN; repeat' (first | apply OpAt.z | apply OpAt.s)) (by rfl) (by rfl) (fun _ W hS => op_load_p rfl rfl (cellAt hS.1 0)) ?_
      simp only [Act.put, List.setIfInBounds_toArray, List.set_cons_zero, List.set_cons_succ]
      refine k_val (.pointer (some ⟨b, 0, none⟩)) (by apply opN; repeat' (first | apply OpAt.z | apply OpAt.s)) (by rfl) (by rfl) (fun _ W hS => op_nc rfl rfl) ?_
      simp only [Act.put, List.setIfInBounds_toArray, List.set_cons_zero, List.set_cons_succ]
      refine k_val (.pointer (some ⟨b, 3, none⟩)) (by apply opN; repeat' (first | apply OpAt.z | apply OpAt.s)) (by rfl) (by rfl) (fun _ W hS => op_fa_d (i := 2) (by decide) rfl rfl rfl) ?_
      simp only [Act.put, List.setIfInBounds_toArray, List.set_cons_zero, List.set_cons_succ]
      refine k_bef 9 (.slice (some ⟨vb, 0, none⟩) n n) (by apply opN; repeat' (first | apply OpAt.z | apply OpAt.s)) (by rfl) (by rfl) (by decide +kernel) (by rfl) (fun g W hg hS => op_load_by rfl rfl (cellAt (hS.2 hg) 3)) ?_
      simp only [Act.put, List.setIfInBounds_toArray, List.set_cons_zero, List.set_cons_succ]
      refine k_step (fun K' u => K' = fun W => ∃ pv', DiskAt W B b n db vb pv' ⟨S.off, S.left, dd, dd, []⟩ ∧ Frn b db vb (.slice ap kp cp) w pv' W ∧ Below B w W) (by apply opN; repeat' (first | apply OpAt.z | apply OpAt.s)) (by rfl) (by rfl) (by rfl) (fun W hC hK => ?_) ?_
      · refine op_x3 rfl rfl rfl rfl rfl (fun _ _ => rfl) ((hSt.out W hK.1).mono ?_)
        rintro e W' ⟨⟨v, rfl⟩, pv', h1, h2, h3, h4, h5⟩
        obtain ⟨k1, k2, k3⟩ := hK.1.settled_vF h1 h2 h3 h4 h5
        refine ⟨_, rfl, ⟨(h5.block xb (Array.getElem?_eq_some_iff.1 hC.1).1 ?_).trans hC.1, fun h => absurd (by simp) h⟩, _, ⟨pv', k1, (hTwH.out.trans (Frn.of_below hK.2)).trans k2, (hBw2H.out.trans (hK.2.mono (Nat.le_trans hdH.out.hb (Nat.le_of_lt hdH.out.lt.1)))).trans k3⟩, rfl⟩
        rintro (e | e | e)
        · exact blocks_ne hC.1 hK.1.row (by decide) e
        · exact blocks_ne hC.1 hK.1.vis (by decide) e
        · rcases hK.1.pend.2 with ⟨e', _⟩ | ⟨g', cap', cur', e', _, hh, _⟩
          · rw [e'] at e; cases e
          · rw [e'] at e; cases e; exact blocks_ne hC.1 hh (by decide) rfl
      rintro _ _ rfl
      simp only [Act.put, List.setIfInBounds_toArray, List.set_cons_zero, List.set_cons_succ]
      refine k_nil ?_
      intro W hC hK
      obtain ⟨pv', k1, k2, k3⟩ := hK
      have cx2 : W.cell? ⟨xb, 0, none⟩ = some (.pointer (some ⟨b, 0, none⟩)) := cellAt hC.1 0
      have hst : (stRow 62 (.pointer (some ⟨b, 0, none⟩)) (.agg #[.bool false, .int .i64 0])).run Try.prog W = .ok () (W.setCells b 0 [.bool false, .int .i64 0]) :=
        stRow_mid (cells := #[.bool false, .int .i64 0]) (fun j hj => by
          have hj2 : j < 2 := hj
          rw [Nat.zero_add]
          refine ⟨?_, by simp [World.frozen?, k1.row]⟩
          rw [cellAt k1.row]
          rcases j with _ | _ | j
          · rfl
          · rfl
          · omega) (by kernel_rfl) (by simp; exact ⟨rfl, rfl⟩)
      have k1H := hide k1
      have k2H := hide k2
      have k3H := hide k3
      clear hC hSt k1 k2 k3
      go_wp2
      go_ret
      have hrow := setCells_heap [.bool false, .int .i64 0] W b 0 _ _ _ k1H.out.row
      have hgr := setCells_grown [.bool false, .int .i64 0] W b 0
      have hch : Chg b W (W.setCells b 0 [.bool false, .int .i64 0]) := ⟨hgr.os, hgr.tape, hgr.output, hgr.size, fun j hj hne => hgr.block j hj fun e => hne (Option.some.inj e)⟩
      obtain ⟨m1, m2, m3⟩ := k1H.out.rowF (off := false) (left := 0) (hrow.trans rfl) hch (by decide)
      refine ⟨rfl, pv', ?_, by rw [← hkpH.out]; exact k2H.out.trans m2, k3H.out.trans m3⟩
      have hcr : S.crash keep torn = ⟨false, 0, dd, dd, []⟩ := by
        rw [RW.Dk.crash, ← hkpH.out, ← hordH.out, ← hNH.out, ← hTH.out]
      rw [hcr]
      exact m1
end Go.Proofs.Ytehenjgggaedeaa

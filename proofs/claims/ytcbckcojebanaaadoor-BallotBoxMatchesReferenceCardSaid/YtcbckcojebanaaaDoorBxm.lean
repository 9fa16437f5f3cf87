/-
  Package royaltylaw25: BallotBoxMatchesReference: it returns true; only new memory is written.
-/
import Derived.Test.YtcbckcojebanaaaDoorBxmP
import Derived.Test.YtcbckcojebanaaaDoorBox8
import Derived.Test.YtcbckcojebanaaaDoorFew2
namespace Go.Proofs.YtcbckcojebanaaaDoor
open Go.RowKit RG
set_option maxRecDepth 100000 in
set_option maxHeartbeats 40000000 in
theorem bboxm_any (K : Nat → Int) (ks : Array Value) (hks : RW.WsOk ks K) (hk0 : K = RW.k0F) (n : Int) (v : Value) (m : Nat) (X : Nat → Nat → Int) (vr : Value) (R : List RW.Min) (hn : -9223372036854775808 ≤ n) (hn2 : n ≤ 9223372036854775807) (hX : ∀ i, i < m → ∀ j, j < 5 → -9223372036854775808 ≤ X i j ∧ X i j ≤ 9223372036854775807)
    (hm : m ≤ 9223372036854775807) (hRl : R.length ≤ 9223372036854775807) (w : World) (hv : FivesV w v m X) (hvr : RowV 8 RW.minl w vr R) (hRi : ∀ x ∈ R, MinIn w x) (hK : KLaid w ks) :
    Calls Tryd.prog 5 #[.int .i64 n, v, vr] w fun e w' => e = .returned (.bool true) ∧ Below w.heap.size w w' := by
  subst hk0
  have hS := hide (bsane_any RW.k0F ks hks w hK)
  have hP := hide (fun W => pick_any n 7 hn hn2 (by decide) (by decide) W)
  obtain ⟨hp0, hp7⟩ := RW.pickI_bd n 7 (by decide)
  obtain ⟨p, hp⟩ : ∃ p, p = RW.pickI n 7 := ⟨_, rfl⟩
  rw [← hp] at hp0 hp7
  obtain ⟨a, cap, rfl, hva⟩ := hv
  obtain ⟨ar, cr, rfl, _, har⟩ := hvr
  obtain ⟨nr, hnr⟩ : ∃ n, n = R.length := ⟨_, rfl⟩
  have hnrH := hide hnr
  rw [← hnr] at hRl ⊢
  obtain ⟨B, hB⟩ : ∃ B, B = w.heap.size := ⟨_, rfl⟩
  have hBH := hide hB
  have hpH := hide hp
  have hvaH := hide hva
  have harH := hide har
  have hXH := hide hX
  have hKH := hide (fun W (h : Below B w W) => (show KLaid W ks from bklaid hK (hB ▸ h)))
  have hfw := hide (fun (x : RW.Min) (hx : x ∈ R) W (h : Below B w W) => few_own x.n x.d x.v x.l W ((strsV_row (hRi x hx).row).next (hB ▸ h)) (hRi x hx).ln (hRi x hx).sb)
  have hksH := hide hks
  clear hp hva hX hK hks hnr har hB hRi
  go_enter Tryd.func5, Tryd.ntmps5
  go_upto_region 2 with (go_at_call 10; refine hS.out.mono ?_; rintro e w1 ⟨rfl, hB1⟩; have hB1H := hide (show Below B w w1 from hBH.out ▸ hB1); clear hB1)
  go_upto_region 3 with (go_at_call 22; refine (hP.out _).mono ?_; rintro e w' ⟨rfl, rfl⟩; rw [← hpH.out])
  obtain ⟨N, hN⟩ : ∃ k : Nat, (k : Int) = 1 + p := ⟨(1 + p).toNat, by omega⟩
  rw [← hN]
  have hN1 : 1 ≤ N := by omega
  have hN7 := hide (show N ≤ 7 by omega)
  clear hN hp0 hp7 hpH hP hS
  go_upto_region 4 with (go_at_call 28; refine (newbox_yes _ (by have := hN7.out; omega) _).mono ?_; rintro e w2 ⟨rfl, hb2, hB2⟩; have hbB := hide (And.intro hb2 hB2); clear hb2 hB2)
  go_upto_region 5 with (go_at_call 29; refine (rnewbox_yes _ (by omega) (by have := hN7.out; omega) _).mono ?_; rintro e w3 ⟨rfl, hw3⟩; have hw3H := hide hw3; clear hw3)
  have hBB : BB w B (w1.heap.size + 1) w1.heap.size w2.heap.size N [] (.slice none 0 0) [] w3 := by
    have hs1 := hB1H.out.size
    have hlt := hbB.out.1.lt
    have hB3 : Below w2.heap.size w2 w3 := by rw [hw3H.out]; exact (Below.refl _ _).alloc (Nat.le_refl _) _
    refine ⟨(hB1H.out.trans (hbB.out.2.mono (by rw [hBH.out]; exact hs1))).trans (hB3.mono (by have := hbB.out.2.size; rw [hBH.out]; omega)), hbB.out.1.next hB3, ⟨by rw [hw3H.out]; exact heap_alloc_new _ _, rfl, .inl ⟨rfl, rfl⟩⟩, rfl, RW.GoodL.nil N, ?_⟩
    rw [hBH.out]
    omega
  have hBBH := hide hBB
  obtain ⟨bx, hbx⟩ : ∃ b, b = w1.heap.size + 1 := ⟨_, rfl⟩
  obtain ⟨mb, hmb⟩ : ∃ b, b = w1.heap.size := ⟨_, rfl⟩
  obtain ⟨rb, hrb⟩ : ∃ b, b = w2.heap.size := ⟨_, rfl⟩
  rw [← hbx, ← hmb, ← hrb] at hBBH
  rw [← hbx, ← hrb]
  refine gen_world (BB w B bx mb rb N [] (.slice none 0 0) []) hBBH.out ?_
  clear hBB hbx hmb hrb hbB hw3H hB1H hBBH
  intro w4 hBB
  have hBBH := hide hBB
  clear hBB
  go_cut [35] (fun s wx => s = .bool false ∧ BB w B bx mb rb N [] (.slice none 0 0) [] wx)
  case first =>
    by_cases hn17 : 1 ≤ n ∧ n ≤ 7
    · have hn17H := hide hn17
      clear hn17
      go_wp2_with (first
        | (go_at_call 28; refine (newbox_yes _ hn17H.out _).mono ?_; rintro e w5 ⟨rfl, _, hB5⟩; have hE5 := hide (hBBH.out.next hB5); clear hB5)
        | (go_at_call 29; refine (rnewbox_yes _ hn17H.out.1 hn17H.out.2 _).mono ?_; rintro e w6 ⟨rfl, hw6⟩; have hE6 := hide (show BB w B bx mb rb N [] (.slice none 0 0) [] w6 from by rw [hw6]; exact hE5.out.next ((Below.refl _ _).alloc (Nat.le_refl _) _)); clear hw6))
      all_goals go_meet
      all_goals exact ⟨rfl, hE6.out⟩
    · have hn17H := hide hn17
      clear hn17
      go_wp2_with (first
        | (go_at_call 28; refine (newbox_no _ hn17H.out _).mono ?_; rintro e w5 ⟨rfl, rfl⟩)
        | (go_at_call 29; refine (rnewbox_no _ hn17H.out _).mono ?_; rintro e w6 ⟨rfl, rfl⟩))
      all_goals go_meet
      all_goals exact ⟨rfl, hBBH.out⟩
  case rest =>
  obtain ⟨rfl, hBB⟩ := hcut
  have hB0 := hide hBB
  clear hBB hBBH
  go_wp2
  go_loopw [11] (fun i wr => ∃ (j : Nat) (LL : List (RW.Vk × ByteArray)) (vb : Value) (Lx : List RW.Mx), i = .int .i64 j ∧ j ≤ 60 ∧ Hid (BB w B bx mb rb N LL vb Lx wr ∧ Lx.length ≤ j)) (fun i _ => 60 - (intOf i).toNat)
  case atStart => exact ⟨0, [], _, [], rfl, Nat.zero_le _, hB0.out, Nat.le_refl _⟩
  case round =>
    clear hB0
    obtain ⟨j, LL, vb, Lx, rfl, hj60, hQ⟩ := hrel
    obtain ⟨wo, hwo⟩ : ∃ wo, wo = wr := ⟨_, rfl⟩
    subst hwo
    have hlxj := hide hQ.out.2
    have hlx := hide (show Lx.length ≤ 60 by have := hQ.out.2; omega)
    have hBB := hide hQ.out.1
    clear hQ
    obtain ⟨c, hcc⟩ : ∃ c, c = decide (j < m ∧ j < 60) := ⟨_, rfl⟩
    have hccH := hide hcc
    clear hcc
    go_upto_region 8 with fail
    go_cut [43] (fun s wx => s = .bool c ∧ wx = wo)
    case first =>
      by_cases h1 : j < m
      · by_cases h2 : j < 60
        · have h2i : (j : Int) < 60 := by omega
          go_wp2
          all_goals go_meet
          all_goals exact ⟨by rw [hccH.out, decide_eq_true (show j < m ∧ j < 60 by omega)] <;> rfl, rfl⟩
        · have h2i : ¬ (j : Int) < 60 := by omega
          go_wp2
          all_goals go_meet
          all_goals exact ⟨by rw [hccH.out, decide_eq_false (show ¬ (j < m ∧ j < 60) by omega)] <;> rfl, rfl⟩
      · go_wp2
        all_goals go_meet
        all_goals exact ⟨by rw [hccH.out, decide_eq_false (show ¬ (j < m ∧ j < 60) by omega)] <;> rfl, rfl⟩
    case rest =>
    obtain ⟨rfl, hwx⟩ := hcut
    have hwx' := hwx.symm
    subst hwx'
    cases c
    · have hend := hide hBB.out.below
      clear hccH
      go_wp2
      go_ret
      first
        | exact ⟨rfl, hend.out⟩
        | exact ⟨rfl, hBH.out ▸ hend.out⟩
    · obtain ⟨hlm, hl60⟩ := of_decide_eq_true hccH.out.symm
      have hj60' := hide hl60
      obtain ⟨b, o, rfl, hb, hc⟩ := hvaH.out.resolve_left (by omega)
      have hrg : wo.rangeAt b (o + j * 5) (RW.five (X j)).toList := five_range fun i hi => (World.cell?_of_block (a := ⟨b, o + j * 5 + i, none⟩) (hBB.out.below.block _ (by rw [hBH.out]; exact hb))).trans (hc j hlm i hi)
      have hi5 : (Tryd.prog.info? 49).map (·.size) = some (RW.five (X j)).toList.length := by kernel_rfl
      have hvt := hide (vote5_any (X j) (hXH.out j hlm) wo)
      have hcv := msg_info (RW.vn (X j)) (RW.vd (X j)) (.slice none 0 0)
      have hov := msg_one (RW.vn (X j)) (RW.vd (X j)) (.slice none 0 0) rfl
      clear hccH hc
      go_upto_region 11 with (first
        | (refine wpList_load_mid rfl 49 (.tmp 48) rfl b (o + j * 5) rfl (RW.five (X j)).toList _ hrg Tryd.underlying49 rfl hi5 ?_)
        | (go_at_call 30; refine hvt.out.mono ?_; rintro e w3 ⟨rfl, hB3⟩; have hBB3 := hide (hBB.out.next hB3); clear hB3)
        | (refine wpList_store_new rfl 24 (.tmp 12) (.tmp 50) rfl (RW.mcells (RW.vn (X j)) (RW.vd (X j)) (.slice none 0 0)) rfl rfl 24 RW.noM hcv rfl hov ?_))
      obtain ⟨b12, hb12e⟩ : ∃ b, b = w3.heap.size := ⟨_, rfl⟩
      rw [← hb12e]
      have hb12 := hide (show rb < b12 ∧ ∀ g, vb.ownBlock = some g → g < b12 from ⟨by rw [hb12e]; exact hBB3.out.ref.lt, fun g hg => by rw [hb12e]; exact (own_block hBB3.out.ref.own hg).2.1⟩)
      refine gen_world (fun W => BB w B bx mb rb N LL vb Lx W ∧ W.heap[b12]? = some (.cells (RW.mcells (RW.vn (X j)) (RW.vd (X j)) (.slice none 0 0)) 24 (0, 0))) ⟨hBB3.out.next ((Below.refl _ _).alloc (Nat.le_refl _) _), by rw [hb12e]; exact heap_alloc_new _ _⟩ ?_
      clear hBB hBB3 hb12e hrg hi5 hvt hcv hov hb hlm hl60
      intro wy hy0
      have hyH := hide hy0
      clear hy0
      obtain ⟨c, hcc⟩ : ∃ c, c = decide (j < nr ∧ j < 10) := ⟨_, rfl⟩
      have hccH := hide hcc
      clear hcc
      simp only [Act.put]
      go_cut [58] (fun s wx => s = .bool c ∧ wx = wy)
      case first =>
        by_cases h1 : j < nr
        · by_cases h2 : j < 10
          · have h2i : (j : Int) < 10 := by omega
            go_wp2
            all_goals go_meet
            all_goals exact ⟨by rw [hccH.out, decide_eq_true (show j < nr ∧ j < 10 by omega)] <;> rfl, rfl⟩
          · have h2i : ¬ (j : Int) < 10 := by omega
            go_wp2
            all_goals go_meet
            all_goals exact ⟨by rw [hccH.out, decide_eq_false (show ¬ (j < nr ∧ j < 10) by omega)] <;> rfl, rfl⟩
        · go_wp2
          all_goals go_meet
          all_goals exact ⟨by rw [hccH.out, decide_eq_false (show ¬ (j < nr ∧ j < 10) by omega)] <;> rfl, rfl⟩
      case rest =>
      obtain ⟨rfl, hwx⟩ := hcut
      have hwx' := hwx.symm
      subst hwx'
      cases c
      · clear hccH
        go_upto_region 13 with fail
        obtain ⟨y, hy⟩ : ∃ y : RW.Min, y = ⟨RW.vn (X j), RW.vd (X j), .slice none 0 0, []⟩ := ⟨_, rfl⟩
        have hyb := hide (show y.l.length ≤ 110 ∧ ∀ s ∈ y.l, s.size ≤ 4010 by rw [hy]; simp)
        refine gen_world (fun W => BB w B bx mb rb N LL vb Lx W ∧ W.heap[b12]? = some (.cells (RW.mcells y.n y.d y.v) 24 (0, 0)) ∧ StrsV W y.v y.l) ⟨hyH.out.1, by rw [hy]; exact hyH.out.2, by rw [hy]; exact StrsV.nil _⟩ ?_
        clear hyH hy
        intro wz hz0
        have hSt := hide hz0
        clear hz0
        obtain ⟨ok, hok⟩ : ∃ q, q = RW.voteOk RW.k0F N y.n y.d.data.toList (RW.bl y.l) := ⟨_, rfl⟩
        obtain ⟨A, hA⟩ : ∃ q, q = RW.addOk ok (RW.vk y.n) LL := ⟨_, rfl⟩
        obtain ⟨LL2, hLL2⟩ : ∃ l, l = RW.addL ok (RW.vk y.n) y.d LL := ⟨_, rfl⟩
        have hgd := hide (show RW.GoodL N LL2 from by rw [hLL2]; exact hSt.out.1.good.add y.d (fun hh => RW.voteOk_from (hok ▸ hh)))
        have hC0 : wz.drew.heap[b12]? = some (.cells (RW.mcells y.n y.d y.v) 24 (0, 0)) ∧ (5 ∉ ([] : List Nat) → StrsV wz.drew y.v y.l) := ⟨hSt.out.2.1, fun _ => hSt.out.2.2.next (Below.refl _ _).drew⟩
        refine wp_region_k (fun g W => W.heap[b12]? = some (.cells (RW.mcells y.n y.d y.v) 24 (0, 0)) ∧ (5 ∉ g → StrsV W y.v y.l)) (fun W => BB w B bx mb rb N LL vb Lx W) [2, 5] (.op 0 (.op 1 (.op 3 (.op 4 (.op 2 (.op 5 (.op 6 .nil))))))) (by kernel_rfl) (by kernel_rfl) (by rfl) (by kernel_rfl) hC0 (hSt.out.1.next (Below.refl _ _).drew) ?_
        refine k_val (.pointer (some ⟨bx, 0, none⟩)) (by apply opN; repeat' (first | apply OpAt.z | apply OpAt.s)) (by rfl) (by rfl) (fun _ W hS => op_mv rfl rfl) ?_
        simp only [Act.put, List.setIfInBounds_toArray, List.set_cons_zero, List.set_cons_succ]
        refine k_val (.agg (RW.mcells y.n y.d y.v)) (by apply opN; repeat' (first | apply OpAt.z | apply OpAt.s)) (by rfl) (by rfl) (fun _ W hS => op_load_agg rfl rfl (msg_ld hS.1)) ?_
        simp only [Act.put, List.setIfInBounds_toArray, List.set_cons_zero, List.set_cons_succ]
        refine k_val (.pointer (some ⟨rb, 0, none⟩)) (by apply opN; repeat' (first | apply OpAt.z | apply OpAt.s)) (by rfl) (by rfl) (fun _ W hS => op_mv rfl rfl) ?_
        simp only [Act.put, List.setIfInBounds_toArray, List.set_cons_zero, List.set_cons_succ]
        refine k_val (.agg (RW.mcells y.n y.d y.v)) (by apply opN; repeat' (first | apply OpAt.z | apply OpAt.s)) (by rfl) (by rfl) (fun _ W hS => op_load_agg rfl rfl (msg_ld hS.1)) ?_
        simp only [Act.put, List.setIfInBounds_toArray, List.set_cons_zero, List.set_cons_succ]
        refine k_step (fun K' u => u = .bool A ∧ K' = fun W => (BoxAt W bx mb N LL2 ∧ RBx W rb N vb Lx) ∧ Below B w W ∧ rb < W.heap.size) (by apply opN; repeat' (first | apply OpAt.z | apply OpAt.s)) (by rfl) (by rfl) (by rfl) (fun W hC hK => ?_) ?_
        · refine op_x2 (a := .pointer (some ⟨bx, 0, none⟩)) (b := .agg (RW.mcells y.n y.d y.v)) rfl rfl rfl rfl cf_badd ?_
          refine (bxadd_any y.n y.d y.v y.l W RW.k0F (hC.2 (by decide)) (by have := hyb.out.1; omega) (fun s hs => by have := hyb.out.2 s hs; omega) ks hksH.out (hKH.out W hK.below) bx mb N LL hK.box).mono ?_
          rintro e w' ⟨rfl, hb2, hk2⟩
          rw [← hok, ← hA, ← hLL2] at *
          have hne : b12 ≠ mb := by have := hb12.out.1; have := hK.lt.2.1; omega
          refine ⟨_, rfl, ⟨(hk2.block _ (Array.getElem?_eq_some_iff.1 hC.1).1 hne).trans hC.1, fun hg => hK.box.strs (hC.2 (by decide)) hk2⟩, _, ⟨⟨hb2, hK.ref.keep (hk2.block _ hK.ref.lt (by have := hK.lt.2.1; omega)) (fun g hg => hk2.block _ (own_block hK.ref.own hg).2.1 (by have := (own_block hK.ref.own hg).1; have := hK.lt.2.1; omega))⟩, kept_bel hk2 hK.below hK.lt.1 hK.lt.2.2.2, Nat.lt_of_lt_of_le hK.ref.lt hk2.size⟩, rfl, rfl⟩
        rintro K' u ⟨rfl, rfl⟩
        simp only [Act.put, List.setIfInBounds_toArray, List.set_cons_zero, List.set_cons_succ]
        refine k_step (fun K' u => u = .bool A ∧ ∃ vb2 Lx2, Lx2.length ≤ Lx.length + 1 ∧ K' = fun W => BB w B bx mb rb N LL2 vb2 Lx2 W) (by apply opN; repeat' (first | apply OpAt.z | apply OpAt.s)) (by rfl) (by rfl) (by rfl) (fun W hC hK => ?_) ?_
        · refine op_x2 (a := .pointer (some ⟨rb, 0, none⟩)) (b := .agg (RW.mcells y.n y.d y.v)) rfl rfl rfl rfl cf_radd ?_
          refine (radd_any hK.1.2 (by have := hlx.out; omega) y.n y.d y.v y.l (hC.2 (by decide)) (by have := hyb.out.1; omega) (fun s hs => by have := hyb.out.2 s hs; omega)).mono ?_
          rintro e w' ⟨rfl, ⟨vb2, Lx2, hr2, hm2, hl2⟩, hk2⟩
          rw [hSt.out.1.same, ← hok] at hm2
          rw [hSt.out.1.same, ← hok, ← hA]
          rw [← hLL2] at hm2
          have hlt := hSt.out.1.lt
          have hown : ∀ k, k < rb → vb.ownBlock ≠ some k := fun k hk e => by have := (own_block hK.1.2.own e).1; omega
          refine ⟨_, rfl, ⟨(hk2.block _ (Array.getElem?_eq_some_iff.1 hC.1).1 (by have := hb12.out.1; omega) (fun e => by have := hb12.out.2 _ e; omega)).trans hC.1, fun hg => absurd (by decide) hg⟩, _, ⟨⟨hk2.os.trans hK.2.1.os, hk2.tape.trans hK.2.1.tape, hk2.output.trans hK.2.1.output, Nat.le_trans hK.2.1.size hk2.size, fun k hk => (hk2.block k (by have := hK.2.2; have := hlt; omega) (by omega) (hown k (by omega))).trans (hK.2.1.block k hk)⟩, hK.1.1.keep (hk2.block _ hK.1.1.lt.1 (by omega) (hown _ (by omega))) (hk2.block _ hK.1.1.lt.2 (by omega) (hown _ (by omega))), hr2, hm2, hgd.out, hlt⟩, rfl, vb2, Lx2, hl2, rfl⟩
        rintro K' u ⟨rfl, vb2, Lx2, hlx2, rfl⟩
        simp only [Act.put, List.setIfInBounds_toArray, List.set_cons_zero, List.set_cons_succ]
        refine k_val (.bool false) (by apply opN; repeat' (first | apply OpAt.z | apply OpAt.s)) (by rfl) (by rfl) (fun _ W hS => op_neq_bF rfl rfl rfl) ?_
        simp only [Act.put, List.setIfInBounds_toArray, List.set_cons_zero, List.set_cons_succ]
        refine k_nil ?_
        intro w5 hC5 hK5
        have hT := hide (And.intro hK5 hC5.1)
        have hlx2H := hide hlx2
        clear hC5 hK5 hlx2 hC0 hSt hA hLL2 hok hb12
        have k0 : w5.cell? ⟨b12, 0, none⟩ = some (.int .i64 (y.n 0)) := (cell_at hT.out.2 0).trans rfl
        have k3 : w5.cell? ⟨b12, 3, none⟩ = some (.int .i64 (y.n 3)) := (cell_at hT.out.2 3).trans rfl
        have k4 : w5.cell? ⟨b12, 4, none⟩ = some (.int .i64 (y.n 4)) := (cell_at hT.out.2 4).trans rfl
        have hm1 := hide (most_box hT.out.1.box hN7.out (y.n 0) (y.n 3) (y.n 4))
        go_upto_region 16 with (go_at_call 33; refine hm1.out.mono ?_; rintro e w6 ⟨⟨best, most, rfl, hsp⟩, hB6⟩; have hT6 := hide (show BB w B bx mb rb N LL2 vb2 Lx2 w6 ∧ w6.heap[b12]? = some (.cells (RW.mcells y.n y.d y.v) 24 (0, 0)) from ⟨hT.out.1.next hB6, (hB6.block _ (Array.getElem?_eq_some_iff.1 hT.out.2).1).trans hT.out.2⟩); have hspH := hide hsp; clear hB6 hsp k0 k3 k4)
        have k0 : w6.cell? ⟨b12, 0, none⟩ = some (.int .i64 (y.n 0)) := (cell_at hT6.out.2 0).trans rfl
        have k3 : w6.cell? ⟨b12, 3, none⟩ = some (.int .i64 (y.n 3)) := (cell_at hT6.out.2 3).trans rfl
        have k4 : w6.cell? ⟨b12, 4, none⟩ = some (.int .i64 (y.n 4)) := (cell_at hT6.out.2 4).trans rfl
        have hm2 := hide (rmost_any hT6.out.1.ref (by have := hlx2H.out; have := hlx.out; omega) (y.n 0) (y.n 3) (y.n 4))
        clear hm1 hT
        go_upto_region 17 with (go_at_call 34; refine hm2.out.mono ?_; rintro e w7 ⟨⟨best2, most2, rfl, hsp2⟩, hB7⟩; have hT7 := hide (show BB w B bx mb rb N LL2 vb2 Lx2 w7 ∧ w7.heap[b12]? = some (.cells (RW.mcells y.n y.d y.v) 24 (0, 0)) from ⟨hT6.out.1.next hB7, (hB7.block _ (Array.getElem?_eq_some_iff.1 hT6.out.2).1).trans hT6.out.2⟩); have hsp2H := hide hsp2; clear hB7 hsp2 k0 k3 k4)
        have hu : best = best2 ∧ most = most2 := by
          have h2 := hsp2H.out
          rw [hT7.out.1.same, ← show (fun d => RW.cnt LL2 (y.n 0) (y.n 3) (y.n 4) d N) = (fun d => RW.rc (y.n 0) (y.n 3) (y.n 4) d LL2) from funext fun d => RW.cnt_list hT7.out.1.good _ _ _ d] at h2
          exact RW.MostSpec.unique hspH.out h2
        obtain ⟨hu1, hu2⟩ := hu
        subst hu1 hu2
        clear hm2 hT6 hspH hsp2H
        refine wp_region_staged (fun _ W => BB w B bx mb rb N LL2 vb2 Lx2 W ∧ W.heap[b12]? = some (.cells (RW.mcells y.n y.d y.v) 24 (0, 0))) [] (by kernel_rfl) (by kernel_rfl) (by rfl) ⟨hT7.out.1.next (Below.refl _ _).drew, hT7.out.2⟩ ?_
        refine st_val (.string best) (by rfl) (by rfl) (fun w => op_mv rfl rfl) ?_
        simp only [Act.put, List.setIfInBounds_toArray, List.set_cons_zero, List.set_cons_succ]
        refine st_val (.string best) (by rfl) (by rfl) (fun w => op_mv rfl rfl) ?_
        simp only [Act.put, List.setIfInBounds_toArray, List.set_cons_zero, List.set_cons_succ]
        refine st_val (.bool false) (by rfl) (by rfl) (fun w => op_neq_strF2 rfl rfl rfl) ?_
        simp only [Act.put, List.setIfInBounds_toArray, List.set_cons_zero, List.set_cons_succ]
        refine st_val (.bool false) (by rfl) (by rfl) (fun w => op_mv rfl rfl) ?_
        simp only [Act.put, List.setIfInBounds_toArray, List.set_cons_zero, List.set_cons_succ]
        refine st_val (.int .i64 most) (by rfl) (by rfl) (fun w => op_mv rfl rfl) ?_
        simp only [Act.put, List.setIfInBounds_toArray, List.set_cons_zero, List.set_cons_succ]
        refine st_val (.int .i64 most) (by rfl) (by rfl) (fun w => op_mv rfl rfl) ?_
        simp only [Act.put, List.setIfInBounds_toArray, List.set_cons_zero, List.set_cons_succ]
        refine st_val (.bool false) (by rfl) (by rfl) (fun w => op_neq_intF2 rfl rfl rfl) ?_
        simp only [Act.put, List.setIfInBounds_toArray, List.set_cons_zero, List.set_cons_succ]
        refine st_val (.bool false) (by rfl) (by rfl) (fun w => op_pick rfl rfl rfl rfl rfl) ?_
        simp only [Act.put, List.setIfInBounds_toArray, List.set_cons_zero, List.set_cons_succ]
        refine st_val (.bool false) (by rfl) (by rfl) (fun w => op_mv rfl rfl) ?_
        simp only [Act.put, List.setIfInBounds_toArray, List.set_cons_zero, List.set_cons_succ]
        refine st_val (.pointer (some ⟨bx, 0, none⟩)) (by rfl) (by rfl) (fun w => op_mv rfl rfl) ?_
        simp only [Act.put, List.setIfInBounds_toArray, List.set_cons_zero, List.set_cons_succ]
        refine st_val (.pointer (some ⟨b12, 0, none⟩)) (by rfl) (by rfl) (fun w => op_fa_0 rfl rfl) ?_
        simp only [Act.put, List.setIfInBounds_toArray, List.set_cons_zero, List.set_cons_succ]
        refine st_op (.int .i64 (y.n 0)) (by rfl) (by rfl) (fun j w0 _ hS => by rw [op_load_int rfl rfl ((cell_at hS.2 0).trans rfl)]; exact ⟨rfl, hS⟩) ?_
        simp only [Act.put, List.setIfInBounds_toArray, List.set_cons_zero, List.set_cons_succ]
        refine st_val (.pointer (some ⟨b12, 3, none⟩)) (by rfl) (by rfl) (fun w => op_fa_3 rfl rfl) ?_
        simp only [Act.put, List.setIfInBounds_toArray, List.set_cons_zero, List.set_cons_succ]
        refine st_op (.int .i64 (y.n 3)) (by rfl) (by rfl) (fun j w0 _ hS => by rw [op_load_int rfl rfl ((cell_at hS.2 3).trans rfl)]; exact ⟨rfl, hS⟩) ?_
        simp only [Act.put, List.setIfInBounds_toArray, List.set_cons_zero, List.set_cons_succ]
        refine st_val (.pointer (some ⟨b12, 4, none⟩)) (by rfl) (by rfl) (fun w => op_fa_4 rfl rfl) ?_
        simp only [Act.put, List.setIfInBounds_toArray, List.set_cons_zero, List.set_cons_succ]
        refine st_op (.int .i64 (y.n 4)) (by rfl) (by rfl) (fun j w0 _ hS => by rw [op_load_int rfl rfl ((cell_at hS.2 4).trans rfl)]; exact ⟨rfl, hS⟩) ?_
        simp only [Act.put, List.setIfInBounds_toArray, List.set_cons_zero, List.set_cons_succ]
        refine st_val (.pointer (some ⟨b12, 6, none⟩)) (by rfl) (by rfl) (fun w => op_fa_6 rfl rfl) ?_
        simp only [Act.put, List.setIfInBounds_toArray, List.set_cons_zero, List.set_cons_succ]
        refine st_op (.string y.d) (by rfl) (by rfl) (fun j w0 _ hS => by rw [op_load_str rfl rfl ((cell_at hS.2 6).trans rfl)]; exact ⟨rfl, hS⟩) ?_
        simp only [Act.put, List.setIfInBounds_toArray, List.set_cons_zero, List.set_cons_succ]
        refine st_op (.int .i64 (RW.cnt LL2 (y.n 0) (y.n 3) (y.n 4) y.d N : Nat)) (by rfl) (by rfl) (fun j w0 _ hS => cu_calls2 (op_r5 rfl rfl rfl rfl rfl rfl rfl cf_bcount) ((count_box hS.1.box hN7.out (y.n 0) (y.n 3) (y.n 4) y.d).mono fun e w' h => ⟨h.1.trans (by rfl), ⟨hS.1.next h.2, (h.2.block _ (Array.getElem?_eq_some_iff.1 hS.2).1).trans hS.2⟩⟩)) ?_
        simp only [Act.put, List.setIfInBounds_toArray, List.set_cons_zero, List.set_cons_succ]
        refine st_val (.pointer (some ⟨rb, 0, none⟩)) (by rfl) (by rfl) (fun w => op_mv rfl rfl) ?_
        simp only [Act.put, List.setIfInBounds_toArray, List.set_cons_zero, List.set_cons_succ]
        refine st_val (.pointer (some ⟨b12, 0, none⟩)) (by rfl) (by rfl) (fun w => op_fa_0 rfl rfl) ?_
        simp only [Act.put, List.setIfInBounds_toArray, List.set_cons_zero, List.set_cons_succ]
        refine st_op (.int .i64 (y.n 0)) (by rfl) (by rfl) (fun j w0 _ hS => by rw [op_load_int rfl rfl ((cell_at hS.2 0).trans rfl)]; exact ⟨rfl, hS⟩) ?_
        simp only [Act.put, List.setIfInBounds_toArray, List.set_cons_zero, List.set_cons_succ]
        refine st_val (.pointer (some ⟨b12, 3, none⟩)) (by rfl) (by rfl) (fun w => op_fa_3 rfl rfl) ?_
        simp only [Act.put, List.setIfInBounds_toArray, List.set_cons_zero, List.set_cons_succ]
        refine st_op (.int .i64 (y.n 3)) (by rfl) (by rfl) (fun j w0 _ hS => by rw [op_load_int rfl rfl ((cell_at hS.2 3).trans rfl)]; exact ⟨rfl, hS⟩) ?_
        simp only [Act.put, List.setIfInBounds_toArray, List.set_cons_zero, List.set_cons_succ]
        refine st_val (.pointer (some ⟨b12, 4, none⟩)) (by rfl) (by rfl) (fun w => op_fa_4 rfl rfl) ?_
        simp only [Act.put, List.setIfInBounds_toArray, List.set_cons_zero, List.set_cons_succ]
        refine st_op (.int .i64 (y.n 4)) (by rfl) (by rfl) (fun j w0 _ hS => by rw [op_load_int rfl rfl ((cell_at hS.2 4).trans rfl)]; exact ⟨rfl, hS⟩) ?_
        simp only [Act.put, List.setIfInBounds_toArray, List.set_cons_zero, List.set_cons_succ]
        refine st_val (.pointer (some ⟨b12, 6, none⟩)) (by rfl) (by rfl) (fun w => op_fa_6 rfl rfl) ?_
        simp only [Act.put, List.setIfInBounds_toArray, List.set_cons_zero, List.set_cons_succ]
        refine st_op (.string y.d) (by rfl) (by rfl) (fun j w0 _ hS => by rw [op_load_str rfl rfl ((cell_at hS.2 6).trans rfl)]; exact ⟨rfl, hS⟩) ?_
        simp only [Act.put, List.setIfInBounds_toArray, List.set_cons_zero, List.set_cons_succ]
        refine st_op (.int .i64 (RW.cnt LL2 (y.n 0) (y.n 3) (y.n 4) y.d N : Nat)) (by rfl) (by rfl) (fun j w0 _ hS => cu_calls2 (op_r5 rfl rfl rfl rfl rfl rfl rfl cf_rcount) ((rcount_any hS.1.ref (by have := hlx2H.out; have := hlx.out; omega) (y.n 0) (y.n 3) (y.n 4) y.d).mono fun e w' h => ⟨h.1.trans (by rw [hS.1.same, ← RW.cnt_list hS.1.good]), ⟨hS.1.next h.2, (h.2.block _ (Array.getElem?_eq_some_iff.1 hS.2).1).trans hS.2⟩⟩)) ?_
        simp only [Act.put, List.setIfInBounds_toArray, List.set_cons_zero, List.set_cons_succ]
        refine st_val (.bool false) (by rfl) (by rfl) (fun w => op_neq_intF2 rfl rfl rfl) ?_
        simp only [Act.put, List.setIfInBounds_toArray, List.set_cons_zero, List.set_cons_succ]
        refine st_val (.bool false) (by rfl) (by rfl) (fun w => op_pick rfl rfl rfl rfl rfl) ?_
        simp only [Act.put, List.setIfInBounds_toArray, List.set_cons_zero, List.set_cons_succ]
        refine st_val (.bool false) (by rfl) (by rfl) (fun w => op_mv rfl rfl) ?_
        simp only [Act.put, List.setIfInBounds_toArray, List.set_cons_zero, List.set_cons_succ]
        refine st_val (.pointer (some ⟨bx, 0, none⟩)) (by rfl) (by rfl) (fun w => op_mv rfl rfl) ?_
        simp only [Act.put, List.setIfInBounds_toArray, List.set_cons_zero, List.set_cons_succ]
        refine st_val (.pointer (some ⟨b12, 3, none⟩)) (by rfl) (by rfl) (fun w => op_fa_3 rfl rfl) ?_
        simp only [Act.put, List.setIfInBounds_toArray, List.set_cons_zero, List.set_cons_succ]
        refine st_op (.int .i64 (y.n 3)) (by rfl) (by rfl) (fun j w0 _ hS => by rw [op_load_int rfl rfl ((cell_at hS.2 3).trans rfl)]; exact ⟨rfl, hS⟩) ?_
        simp only [Act.put, List.setIfInBounds_toArray, List.set_cons_zero, List.set_cons_succ]
        refine st_val (.pointer (some ⟨b12, 4, none⟩)) (by rfl) (by rfl) (fun w => op_fa_4 rfl rfl) ?_
        simp only [Act.put, List.setIfInBounds_toArray, List.set_cons_zero, List.set_cons_succ]
        refine st_op (.int .i64 (y.n 4)) (by rfl) (by rfl) (fun j w0 _ hS => by rw [op_load_int rfl rfl ((cell_at hS.2 4).trans rfl)]; exact ⟨rfl, hS⟩) ?_
        simp only [Act.put, List.setIfInBounds_toArray, List.set_cons_zero, List.set_cons_succ]
        refine st_op (.int .i64 (RW.rah LL2 (y.n 3) (y.n 4) N : Nat)) (by rfl) (by rfl) (fun j w0 _ hS => cu_calls2 (op_r3 rfl rfl rfl rfl rfl cf_bahead) ((ahead_box hS.1.box (y.n 3) (y.n 4)).mono fun e w' h => ⟨h.1.trans (by rw [RW.aheadN_rah hS.1.good]), ⟨hS.1.next h.2, (h.2.block _ (Array.getElem?_eq_some_iff.1 hS.2).1).trans hS.2⟩⟩)) ?_
        simp only [Act.put, List.setIfInBounds_toArray, List.set_cons_zero, List.set_cons_succ]
        refine st_val (.pointer (some ⟨rb, 0, none⟩)) (by rfl) (by rfl) (fun w => op_mv rfl rfl) ?_
        simp only [Act.put, List.setIfInBounds_toArray, List.set_cons_zero, List.set_cons_succ]
        refine st_val (.pointer (some ⟨b12, 3, none⟩)) (by rfl) (by rfl) (fun w => op_fa_3 rfl rfl) ?_
        simp only [Act.put, List.setIfInBounds_toArray, List.set_cons_zero, List.set_cons_succ]
        refine st_op (.int .i64 (y.n 3)) (by rfl) (by rfl) (fun j w0 _ hS => by rw [op_load_int rfl rfl ((cell_at hS.2 3).trans rfl)]; exact ⟨rfl, hS⟩) ?_
        simp only [Act.put, List.setIfInBounds_toArray, List.set_cons_zero, List.set_cons_succ]
        refine st_val (.pointer (some ⟨b12, 4, none⟩)) (by rfl) (by rfl) (fun w => op_fa_4 rfl rfl) ?_
        simp only [Act.put, List.setIfInBounds_toArray, List.set_cons_zero, List.set_cons_succ]
        refine st_op (.int .i64 (y.n 4)) (by rfl) (by rfl) (fun j w0 _ hS => by rw [op_load_int rfl rfl ((cell_at hS.2 4).trans rfl)]; exact ⟨rfl, hS⟩) ?_
        simp only [Act.put, List.setIfInBounds_toArray, List.set_cons_zero, List.set_cons_succ]
        refine st_op (.int .i64 (RW.rah LL2 (y.n 3) (y.n 4) N : Nat)) (by rfl) (by rfl) (fun j w0 _ hS => cu_calls2 (op_r3 rfl rfl rfl rfl rfl cf_rahead) ((rahead_any hS.1.ref (by have := hlx2H.out; have := hlx.out; omega) hN7.out (y.n 3) (y.n 4)).mono fun e w' h => ⟨h.1.trans (by rw [hS.1.same]), ⟨hS.1.next h.2, (h.2.block _ (Array.getElem?_eq_some_iff.1 hS.2).1).trans hS.2⟩⟩)) ?_
        simp only [Act.put, List.setIfInBounds_toArray, List.set_cons_zero, List.set_cons_succ]
        refine st_val (.bool false) (by rfl) (by rfl) (fun w => op_neq_intF2 rfl rfl rfl) ?_
        simp only [Act.put, List.setIfInBounds_toArray, List.set_cons_zero, List.set_cons_succ]
        refine st_val (.bool false) (by rfl) (by rfl) (fun w => op_pick rfl rfl rfl rfl rfl) ?_
        simp only [Act.put, List.setIfInBounds_toArray, List.set_cons_zero, List.set_cons_succ]
        refine st_nil ?_
        intro w9 hS9
        have hE := hide hS9.1
        clear hS9 hT7
        go_wp2
        go_roundw
        case rel => exact ⟨j + 1, LL2, vb2, Lx2, by go_num, by have := hj60'.out; omega, hE.out, by have := hlx2H.out; have := hlxj.out; omega⟩
        case measure => have := hj60'.out; simp [intOf]; omega
      · obtain ⟨hlr, hl10⟩ := of_decide_eq_true hccH.out.symm
        obtain ⟨x, hx⟩ : ∃ x, R[j]? = some x := ⟨_, List.getElem?_eq_getElem (by rw [← hnrH.out]; exact hlr)⟩
        obtain ⟨br, or', rfl, hbr, hcr⟩ := harH.out.resolve_left (by rintro rfl; simp at hx)
        have hrg : wy.rangeAt br (or' + j * 8) (RW.minl x) := fun i u hi => (World.cell?_of_block (a := ⟨br, or' + j * 8 + i, none⟩) (hyH.out.1.below.block _ (by rw [hBH.out]; exact hbr))).trans (hcr j x hx i u hi)
        have hi8 : (Tryd.prog.info? 24).map (·.size) = some (RW.minl x).length := msg_info x.n x.d x.v
        have hfx := hide (hfw.out x (List.mem_of_getElem? hx) wy hyH.out.1.below)
        clear hccH hx hcr hbr hl10
        go_upto_region 13 with (first
          | (refine wpList_load_mid rfl 24 (.tmp 61) rfl br (or' + j * 8) rfl (RW.minl x) _ hrg Tryd.underlying24 rfl hi8 ?_)
          | (go_at_call 11; refine hfx.out.mono ?_; rintro e w5 ⟨⟨u, rfl, ⟨Lf, hs5, hl5, hz5⟩, hg5⟩, hB5⟩; have hg5H := hide hg5; have h12 := hide (Array.getElem?_eq_some_iff.1 hyH.out.2).1; have hr5 := (hB5.block _ (Array.getElem?_eq_some_iff.1 hyH.out.2).1).trans hyH.out.2; have hcy := msg_info x.n x.d u; have hoy := msg_one x.n x.d u hs5.one; have hB5H := hide hB5; have hs5H := hide hs5; have hyz := hide (And.intro hl5 hz5); clear hB5 hs5 hl5 hz5 hg5)
          | (refine wpList_store_row rfl 24 (.tmp 12) (.tmp 63) rfl b12 (RW.mcells x.n x.d u) rfl rfl 24 (RW.mcells (RW.vn (X j)) (RW.vd (X j)) (.slice none 0 0)) hr5 hcy rfl hoy ?_))
        obtain ⟨y, hy⟩ : ∃ y : RW.Min, y = ⟨x.n, x.d, u, Lf⟩ := ⟨_, rfl⟩
        have hyb := hide (show y.l.length ≤ 110 ∧ ∀ s ∈ y.l, s.size ≤ 4010 by rw [hy]; exact hyz.out)
        refine gen_world (fun W => BB w B bx mb rb N LL vb Lx W ∧ W.heap[b12]? = some (.cells (RW.mcells y.n y.d y.v) 24 (0, 0)) ∧ StrsV W y.v y.l) ?_ ?_
        · refine ⟨(hyH.out.1.next hB5H.out).setRow hb12.out.1 hb12.out.2 _, by rw [hy]; exact setRow_heap _ _ _ _ _ _ hr5, ?_⟩
          rw [hy]
          exact hs5H.out.setRow (fun g hg => by have := hg5H.out g hg; have := h12.out; omega) _
        clear hyH hy hrg hi8 hfx hr5 hcy hoy hB5H hs5H hyz hg5H h12
        intro wz hz0
        have hSt := hide hz0
        clear hz0
        obtain ⟨ok, hok⟩ : ∃ q, q = RW.voteOk RW.k0F N y.n y.d.data.toList (RW.bl y.l) := ⟨_, rfl⟩
        obtain ⟨A, hA⟩ : ∃ q, q = RW.addOk ok (RW.vk y.n) LL := ⟨_, rfl⟩
        obtain ⟨LL2, hLL2⟩ : ∃ l, l = RW.addL ok (RW.vk y.n) y.d LL := ⟨_, rfl⟩
        have hgd := hide (show RW.GoodL N LL2 from by rw [hLL2]; exact hSt.out.1.good.add y.d (fun hh => RW.voteOk_from (hok ▸ hh)))
        have hC0 : wz.drew.heap[b12]? = some (.cells (RW.mcells y.n y.d y.v) 24 (0, 0)) ∧ (5 ∉ ([] : List Nat) → StrsV wz.drew y.v y.l) := ⟨hSt.out.2.1, fun _ => hSt.out.2.2.next (Below.refl _ _).drew⟩
        refine wp_region_k (fun g W => W.heap[b12]? = some (.cells (RW.mcells y.n y.d y.v) 24 (0, 0)) ∧ (5 ∉ g → StrsV W y.v y.l)) (fun W => BB w B bx mb rb N LL vb Lx W) [2, 5] (.op 0 (.op 1 (.op 3 (.op 4 (.op 2 (.op 5 (.op 6 .nil))))))) (by kernel_rfl) (by kernel_rfl) (by rfl) (by kernel_rfl) hC0 (hSt.out.1.next (Below.refl _ _).drew) ?_
        refine k_val (.pointer (some ⟨bx, 0, none⟩)) (by apply opN; repeat' (first | apply OpAt.z | apply OpAt.s)) (by rfl) (by rfl) (fun _ W hS => op_mv rfl rfl) ?_
        simp only [Act.put, List.setIfInBounds_toArray, List.set_cons_zero, List.set_cons_succ]
        refine k_val (.agg (RW.mcells y.n y.d y.v)) (by apply opN; repeat' (first | apply OpAt.z | apply OpAt.s)) (by rfl) (by rfl) (fun _ W hS => op_load_agg rfl rfl (msg_ld hS.1)) ?_
        simp only [Act.put, List.setIfInBounds_toArray, List.set_cons_zero, List.set_cons_succ]
        refine k_val (.pointer (some ⟨rb, 0, none⟩)) (by apply opN; repeat' (first | apply OpAt.z | apply OpAt.s)) (by rfl) (by rfl) (fun _ W hS => op_mv rfl rfl) ?_
        simp only [Act.put, List.setIfInBounds_toArray, List.set_cons_zero, List.set_cons_succ]
        refine k_val (.agg (RW.mcells y.n y.d y.v)) (by apply opN; repeat' (first | apply OpAt.z | apply OpAt.s)) (by rfl) (by rfl) (fun _ W hS => op_load_agg rfl rfl (msg_ld hS.1)) ?_
        simp only [Act.put, List.setIfInBounds_toArray, List.set_cons_zero, List.set_cons_succ]
        refine k_step (fun K' u => u = .bool A ∧ K' = fun W => (BoxAt W bx mb N LL2 ∧ RBx W rb N vb Lx) ∧ Below B w W ∧ rb < W.heap.size) (by apply opN; repeat' (first | apply OpAt.z | apply OpAt.s)) (by rfl) (by rfl) (by rfl) (fun W hC hK => ?_) ?_
        · refine op_x2 (a := .pointer (some ⟨bx, 0, none⟩)) (b := .agg (RW.mcells y.n y.d y.v)) rfl rfl rfl rfl cf_badd ?_
          refine (bxadd_any y.n y.d y.v y.l W RW.k0F (hC.2 (by decide)) (by have := hyb.out.1; omega) (fun s hs => by have := hyb.out.2 s hs; omega) ks hksH.out (hKH.out W hK.below) bx mb N LL hK.box).mono ?_
          rintro e w' ⟨rfl, hb2, hk2⟩
          rw [← hok, ← hA, ← hLL2] at *
          have hne : b12 ≠ mb := by have := hb12.out.1; have := hK.lt.2.1; omega
          refine ⟨_, rfl, ⟨(hk2.block _ (Array.getElem?_eq_some_iff.1 hC.1).1 hne).trans hC.1, fun hg => hK.box.strs (hC.2 (by decide)) hk2⟩, _, ⟨⟨hb2, hK.ref.keep (hk2.block _ hK.ref.lt (by have := hK.lt.2.1; omega)) (fun g hg => hk2.block _ (own_block hK.ref.own hg).2.1 (by have := (own_block hK.ref.own hg).1; have := hK.lt.2.1; omega))⟩, kept_bel hk2 hK.below hK.lt.1 hK.lt.2.2.2, Nat.lt_of_lt_of_le hK.ref.lt hk2.size⟩, rfl, rfl⟩
        rintro K' u ⟨rfl, rfl⟩
        simp only [Act.put, List.setIfInBounds_toArray, List.set_cons_zero, List.set_cons_succ]
        refine k_step (fun K' u => u = .bool A ∧ ∃ vb2 Lx2, Lx2.length ≤ Lx.length + 1 ∧ K' = fun W => BB w B bx mb rb N LL2 vb2 Lx2 W) (by apply opN; repeat' (first | apply OpAt.z | apply OpAt.s)) (by rfl) (by rfl) (by rfl) (fun W hC hK => ?_) ?_
        · refine op_x2 (a := .pointer (some ⟨rb, 0, none⟩)) (b := .agg (RW.mcells y.n y.d y.v)) rfl rfl rfl rfl cf_radd ?_
          refine (radd_any hK.1.2 (by have := hlx.out; omega) y.n y.d y.v y.l (hC.2 (by decide)) (by have := hyb.out.1; omega) (fun s hs => by have := hyb.out.2 s hs; omega)).mono ?_
          rintro e w' ⟨rfl, ⟨vb2, Lx2, hr2, hm2, hl2⟩, hk2⟩
          rw [hSt.out.1.same, ← hok] at hm2
          rw [hSt.out.1.same, ← hok, ← hA]
          rw [← hLL2] at hm2
          have hlt := hSt.out.1.lt
          have hown : ∀ k, k < rb → vb.ownBlock ≠ some k := fun k hk e => by have := (own_block hK.1.2.own e).1; omega
          refine ⟨_, rfl, ⟨(hk2.block _ (Array.getElem?_eq_some_iff.1 hC.1).1 (by have := hb12.out.1; omega) (fun e => by have := hb12.out.2 _ e; omega)).trans hC.1, fun hg => absurd (by decide) hg⟩, _, ⟨⟨hk2.os.trans hK.2.1.os, hk2.tape.trans hK.2.1.tape, hk2.output.trans hK.2.1.output, Nat.le_trans hK.2.1.size hk2.size, fun k hk => (hk2.block k (by have := hK.2.2; have := hlt; omega) (by omega) (hown k (by omega))).trans (hK.2.1.block k hk)⟩, hK.1.1.keep (hk2.block _ hK.1.1.lt.1 (by omega) (hown _ (by omega))) (hk2.block _ hK.1.1.lt.2 (by omega) (hown _ (by omega))), hr2, hm2, hgd.out, hlt⟩, rfl, vb2, Lx2, hl2, rfl⟩
        rintro K' u ⟨rfl, vb2, Lx2, hlx2, rfl⟩
        simp only [Act.put, List.setIfInBounds_toArray, List.set_cons_zero, List.set_cons_succ]
        refine k_val (.bool false) (by apply opN; repeat' (first | apply OpAt.z | apply OpAt.s)) (by rfl) (by rfl) (fun _ W hS => op_neq_bF rfl rfl rfl) ?_
        simp only [Act.put, List.setIfInBounds_toArray, List.set_cons_zero, List.set_cons_succ]
        refine k_nil ?_
        intro w5 hC5 hK5
        have hT := hide (And.intro hK5 hC5.1)
        have hlx2H := hide hlx2
        clear hC5 hK5 hlx2 hC0 hSt hA hLL2 hok hb12
        have k0 : w5.cell? ⟨b12, 0, none⟩ = some (.int .i64 (y.n 0)) := (cell_at hT.out.2 0).trans rfl
        have k3 : w5.cell? ⟨b12, 3, none⟩ = some (.int .i64 (y.n 3)) := (cell_at hT.out.2 3).trans rfl
        have k4 : w5.cell? ⟨b12, 4, none⟩ = some (.int .i64 (y.n 4)) := (cell_at hT.out.2 4).trans rfl
        have hm1 := hide (most_box hT.out.1.box hN7.out (y.n 0) (y.n 3) (y.n 4))
        go_upto_region 16 with (go_at_call 33; refine hm1.out.mono ?_; rintro e w6 ⟨⟨best, most, rfl, hsp⟩, hB6⟩; have hT6 := hide (show BB w B bx mb rb N LL2 vb2 Lx2 w6 ∧ w6.heap[b12]? = some (.cells (RW.mcells y.n y.d y.v) 24 (0, 0)) from ⟨hT.out.1.next hB6, (hB6.block _ (Array.getElem?_eq_some_iff.1 hT.out.2).1).trans hT.out.2⟩); have hspH := hide hsp; clear hB6 hsp k0 k3 k4)
        have k0 : w6.cell? ⟨b12, 0, none⟩ = some (.int .i64 (y.n 0)) := (cell_at hT6.out.2 0).trans rfl
        have k3 : w6.cell? ⟨b12, 3, none⟩ = some (.int .i64 (y.n 3)) := (cell_at hT6.out.2 3).trans rfl
        have k4 : w6.cell? ⟨b12, 4, none⟩ = some (.int .i64 (y.n 4)) := (cell_at hT6.out.2 4).trans rfl
        have hm2 := hide (rmost_any hT6.out.1.ref (by have := hlx2H.out; have := hlx.out; omega) (y.n 0) (y.n 3) (y.n 4))
        clear hm1 hT
        go_upto_region 17 with (go_at_call 34; refine hm2.out.mono ?_; rintro e w7 ⟨⟨best2, most2, rfl, hsp2⟩, hB7⟩; have hT7 := hide (show BB w B bx mb rb N LL2 vb2 Lx2 w7 ∧ w7.heap[b12]? = some (.cells (RW.mcells y.n y.d y.v) 24 (0, 0)) from ⟨hT6.out.1.next hB7, (hB7.block _ (Array.getElem?_eq_some_iff.1 hT6.out.2).1).trans hT6.out.2⟩); have hsp2H := hide hsp2; clear hB7 hsp2 k0 k3 k4)
        have hu : best = best2 ∧ most = most2 := by
          have h2 := hsp2H.out
          rw [hT7.out.1.same, ← show (fun d => RW.cnt LL2 (y.n 0) (y.n 3) (y.n 4) d N) = (fun d => RW.rc (y.n 0) (y.n 3) (y.n 4) d LL2) from funext fun d => RW.cnt_list hT7.out.1.good _ _ _ d] at h2
          exact RW.MostSpec.unique hspH.out h2
        obtain ⟨hu1, hu2⟩ := hu
        subst hu1 hu2
        clear hm2 hT6 hspH hsp2H
        refine wp_region_staged (fun _ W => BB w B bx mb rb N LL2 vb2 Lx2 W ∧ W.heap[b12]? = some (.cells (RW.mcells y.n y.d y.v) 24 (0, 0))) [] (by kernel_rfl) (by kernel_rfl) (by rfl) ⟨hT7.out.1.next (Below.refl _ _).drew, hT7.out.2⟩ ?_
        refine st_val (.string best) (by rfl) (by rfl) (fun w => op_mv rfl rfl) ?_
        simp only [Act.put, List.setIfInBounds_toArray, List.set_cons_zero, List.set_cons_succ]
        refine st_val (.string best) (by rfl) (by rfl) (fun w => op_mv rfl rfl) ?_
        simp only [Act.put, List.setIfInBounds_toArray, List.set_cons_zero, List.set_cons_succ]
        refine st_val (.bool false) (by rfl) (by rfl) (fun w => op_neq_strF2 rfl rfl rfl) ?_
        simp only [Act.put, List.setIfInBounds_toArray, List.set_cons_zero, List.set_cons_succ]
        refine st_val (.bool false) (by rfl) (by rfl) (fun w => op_mv rfl rfl) ?_
        simp only [Act.put, List.setIfInBounds_toArray, List.set_cons_zero, List.set_cons_succ]
        refine st_val (.int .i64 most) (by rfl) (by rfl) (fun w => op_mv rfl rfl) ?_
        simp only [Act.put, List.setIfInBounds_toArray, List.set_cons_zero, List.set_cons_succ]
        refine st_val (.int .i64 most) (by rfl) (by rfl) (fun w => op_mv rfl rfl) ?_
        simp only [Act.put, List.setIfInBounds_toArray, List.set_cons_zero, List.set_cons_succ]
        refine st_val (.bool false) (by rfl) (by rfl) (fun w => op_neq_intF2 rfl rfl rfl) ?_
        simp only [Act.put, List.setIfInBounds_toArray, List.set_cons_zero, List.set_cons_succ]
        refine st_val (.bool false) (by rfl) (by rfl) (fun w => op_pick rfl rfl rfl rfl rfl) ?_
        simp only [Act.put, List.setIfInBounds_toArray, List.set_cons_zero, List.set_cons_succ]
        refine st_val (.bool false) (by rfl) (by rfl) (fun w => op_mv rfl rfl) ?_
        simp only [Act.put, List.setIfInBounds_toArray, List.set_cons_zero, List.set_cons_succ]
        refine st_val (.pointer (some ⟨bx, 0, none⟩)) (by rfl) (by rfl) (fun w => op_mv rfl rfl) ?_
        simp only [Act.put, List.setIfInBounds_toArray, List.set_cons_zero, List.set_cons_succ]
        refine st_val (.pointer (some ⟨b12, 0, none⟩)) (by rfl) (by rfl) (fun w => op_fa_0 rfl rfl) ?_
        simp only [Act.put, List.setIfInBounds_toArray, List.set_cons_zero, List.set_cons_succ]
        refine st_op (.int .i64 (y.n 0)) (by rfl) (by rfl) (fun j w0 _ hS => by rw [op_load_int rfl rfl ((cell_at hS.2 0).trans rfl)]; exact ⟨rfl, hS⟩) ?_
        simp only [Act.put, List.setIfInBounds_toArray, List.set_cons_zero, List.set_cons_succ]
        refine st_val (.pointer (some ⟨b12, 3, none⟩)) (by rfl) (by rfl) (fun w => op_fa_3 rfl rfl) ?_
        simp only [Act.put, List.setIfInBounds_toArray, List.set_cons_zero, List.set_cons_succ]
        refine st_op (.int .i64 (y.n 3)) (by rfl) (by rfl) (fun j w0 _ hS => by rw [op_load_int rfl rfl ((cell_at hS.2 3).trans rfl)]; exact ⟨rfl, hS⟩) ?_
        simp only [Act.put, List.setIfInBounds_toArray, List.set_cons_zero, List.set_cons_succ]
        refine st_val (.pointer (some ⟨b12, 4, none⟩)) (by rfl) (by rfl) (fun w => op_fa_4 rfl rfl) ?_
        simp only [Act.put, List.setIfInBounds_toArray, List.set_cons_zero, List.set_cons_succ]
        refine st_op (.int .i64 (y.n 4)) (by rfl) (by rfl) (fun j w0 _ hS => by rw [op_load_int rfl rfl ((cell_at hS.2 4).trans rfl)]; exact ⟨rfl, hS⟩) ?_
        simp only [Act.put, List.setIfInBounds_toArray, List.set_cons_zero, List.set_cons_succ]
        refine st_val (.pointer (some ⟨b12, 6, none⟩)) (by rfl) (by rfl) (fun w => op_fa_6 rfl rfl) ?_
        simp only [Act.put, List.setIfInBounds_toArray, List.set_cons_zero, List.set_cons_succ]
        refine st_op (.string y.d) (by rfl) (by rfl) (fun j w0 _ hS => by rw [op_load_str rfl rfl ((cell_at hS.2 6).trans rfl)]; exact ⟨rfl, hS⟩) ?_
        simp only [Act.put, List.setIfInBounds_toArray, List.set_cons_zero, List.set_cons_succ]
        refine st_op (.int .i64 (RW.cnt LL2 (y.n 0) (y.n 3) (y.n 4) y.d N : Nat)) (by rfl) (by rfl) (fun j w0 _ hS => cu_calls2 (op_r5 rfl rfl rfl rfl rfl rfl rfl cf_bcount) ((count_box hS.1.box hN7.out (y.n 0) (y.n 3) (y.n 4) y.d).mono fun e w' h => ⟨h.1.trans (by rfl), ⟨hS.1.next h.2, (h.2.block _ (Array.getElem?_eq_some_iff.1 hS.2).1).trans hS.2⟩⟩)) ?_
        simp only [Act.put, List.setIfInBounds_toArray, List.set_cons_zero, List.set_cons_succ]
        refine st_val (.pointer (some ⟨rb, 0, none⟩)) (by rfl) (by rfl) (fun w => op_mv rfl rfl) ?_
        simp only [Act.put, List.setIfInBounds_toArray, List.set_cons_zero, List.set_cons_succ]
        refine st_val (.pointer (some ⟨b12, 0, none⟩)) (by rfl) (by rfl) (fun w => op_fa_0 rfl rfl) ?_
        simp only [Act.put, List.setIfInBounds_toArray, List.set_cons_zero, List.set_cons_succ]
        refine st_op (.int .i64 (y.n 0)) (by rfl) (by rfl) (fun j w0 _ hS => by rw [op_load_int rfl rfl ((cell_at hS.2 0).trans rfl)]; exact ⟨rfl, hS⟩) ?_
        simp only [Act.put, List.setIfInBounds_toArray, List.set_cons_zero, List.set_cons_succ]
        refine st_val (.pointer (some ⟨b12, 3, none⟩)) (by rfl) (by rfl) (fun w => op_fa_3 rfl rfl) ?_
        simp only [Act.put, List.setIfInBounds_toArray, List.set_cons_zero, List.set_cons_succ]
        refine st_op (.int .i64 (y.n 3)) (by rfl) (by rfl) (fun j w0 _ hS => by rw [op_load_int rfl rfl ((cell_at hS.2 3).trans rfl)]; exact ⟨rfl, hS⟩) ?_
        simp only [Act.put, List.setIfInBounds_toArray, List.set_cons_zero, List.set_cons_succ]
        refine st_val (.pointer (some ⟨b12, 4, none⟩)) (by rfl) (by rfl) (fun w => op_fa_4 rfl rfl) ?_
        simp only [Act.put, List.setIfInBounds_toArray, List.set_cons_zero, List.set_cons_succ]
        refine st_op (.int .i64 (y.n 4)) (by rfl) (by rfl) (fun j w0 _ hS => by rw [op_load_int rfl rfl ((cell_at hS.2 4).trans rfl)]; exact ⟨rfl, hS⟩) ?_
        simp only [Act.put, List.setIfInBounds_toArray, List.set_cons_zero, List.set_cons_succ]
        refine st_val (.pointer (some ⟨b12, 6, none⟩)) (by rfl) (by rfl) (fun w => op_fa_6 rfl rfl) ?_
        simp only [Act.put, List.setIfInBounds_toArray, List.set_cons_zero, List.set_cons_succ]
        refine st_op (.string y.d) (by rfl) (by rfl) (fun j w0 _ hS => by rw [op_load_str rfl rfl ((cell_at hS.2 6).trans rfl)]; exact ⟨rfl, hS⟩) ?_
        simp only [Act.put, List.setIfInBounds_toArray, List.set_cons_zero, List.set_cons_succ]
        refine st_op (.int .i64 (RW.cnt LL2 (y.n 0) (y.n 3) (y.n 4) y.d N : Nat)) (by rfl) (by rfl) (fun j w0 _ hS => cu_calls2 (op_r5 rfl rfl rfl rfl rfl rfl rfl cf_rcount) ((rcount_any hS.1.ref (by have := hlx2H.out; have := hlx.out; omega) (y.n 0) (y.n 3) (y.n 4) y.d).mono fun e w' h => ⟨h.1.trans (by rw [hS.1.same, ← RW.cnt_list hS.1.good]), ⟨hS.1.next h.2, (h.2.block _ (Array.getElem?_eq_some_iff.1 hS.2).1).trans hS.2⟩⟩)) ?_
        simp only [Act.put, List.setIfInBounds_toArray, List.set_cons_zero, List.set_cons_succ]
        refine st_val (.bool false) (by rfl) (by rfl) (fun w => op_neq_intF2 rfl rfl rfl) ?_
        simp only [Act.put, List.setIfInBounds_toArray, List.set_cons_zero, List.set_cons_succ]
        refine st_val (.bool false) (by rfl) (by rfl) (fun w => op_pick rfl rfl rfl rfl rfl) ?_
        simp only [Act.put, List.setIfInBounds_toArray, List.set_cons_zero, List.set_cons_succ]
        refine st_val (.bool false) (by rfl) (by rfl) (fun w => op_mv rfl rfl) ?_
        simp only [Act.put, List.setIfInBounds_toArray, List.set_cons_zero, List.set_cons_succ]
        refine st_val (.pointer (some ⟨bx, 0, none⟩)) (by rfl) (by rfl) (fun w => op_mv rfl rfl) ?_
        simp only [Act.put, List.setIfInBounds_toArray, List.set_cons_zero, List.set_cons_succ]
        refine st_val (.pointer (some ⟨b12, 3, none⟩)) (by rfl) (by rfl) (fun w => op_fa_3 rfl rfl) ?_
        simp only [Act.put, List.setIfInBounds_toArray, List.set_cons_zero, List.set_cons_succ]
        refine st_op (.int .i64 (y.n 3)) (by rfl) (by rfl) (fun j w0 _ hS => by rw [op_load_int rfl rfl ((cell_at hS.2 3).trans rfl)]; exact ⟨rfl, hS⟩) ?_
        simp only [Act.put, List.setIfInBounds_toArray, List.set_cons_zero, List.set_cons_succ]
        refine st_val (.pointer (some ⟨b12, 4, none⟩)) (by rfl) (by rfl) (fun w => op_fa_4 rfl rfl) ?_
        simp only [Act.put, List.setIfInBounds_toArray, List.set_cons_zero, List.set_cons_succ]
        refine st_op (.int .i64 (y.n 4)) (by rfl) (by rfl) (fun j w0 _ hS => by rw [op_load_int rfl rfl ((cell_at hS.2 4).trans rfl)]; exact ⟨rfl, hS⟩) ?_
        simp only [Act.put, List.setIfInBounds_toArray, List.set_cons_zero, List.set_cons_succ]
        refine st_op (.int .i64 (RW.rah LL2 (y.n 3) (y.n 4) N : Nat)) (by rfl) (by rfl) (fun j w0 _ hS => cu_calls2 (op_r3 rfl rfl rfl rfl rfl cf_bahead) ((ahead_box hS.1.box (y.n 3) (y.n 4)).mono fun e w' h => ⟨h.1.trans (by rw [RW.aheadN_rah hS.1.good]), ⟨hS.1.next h.2, (h.2.block _ (Array.getElem?_eq_some_iff.1 hS.2).1).trans hS.2⟩⟩)) ?_
        simp only [Act.put, List.setIfInBounds_toArray, List.set_cons_zero, List.set_cons_succ]
        refine st_val (.pointer (some ⟨rb, 0, none⟩)) (by rfl) (by rfl) (fun w => op_mv rfl rfl) ?_
        simp only [Act.put, List.setIfInBounds_toArray, List.set_cons_zero, List.set_cons_succ]
        refine st_val (.pointer (some ⟨b12, 3, none⟩)) (by rfl) (by rfl) (fun w => op_fa_3 rfl rfl) ?_
        simp only [Act.put, List.setIfInBounds_toArray, List.set_cons_zero, List.set_cons_succ]
        refine st_op (.int .i64 (y.n 3)) (by rfl) (by rfl) (fun j w0 _ hS => by rw [op_load_int rfl rfl ((cell_at hS.2 3).trans rfl)]; exact ⟨rfl, hS⟩) ?_
        simp only [Act.put, List.setIfInBounds_toArray, List.set_cons_zero, List.set_cons_succ]
        refine st_val (.pointer (some ⟨b12, 4, none⟩)) (by rfl) (by rfl) (fun w => op_fa_4 rfl rfl) ?_
        simp only [Act.put, List.setIfInBounds_toArray, List.set_cons_zero, List.set_cons_succ]
        refine st_op (.int .i64 (y.n 4)) (by rfl) (by rfl) (fun j w0 _ hS => by rw [op_load_int rfl rfl ((cell_at hS.2 4).trans rfl)]; exact ⟨rfl, hS⟩) ?_
        simp only [Act.put, List.setIfInBounds_toArray, List.set_cons_zero, List.set_cons_succ]
        refine st_op (.int .i64 (RW.rah LL2 (y.n 3) (y.n 4) N : Nat)) (by rfl) (by rfl) (fun j w0 _ hS => cu_calls2 (op_r3 rfl rfl rfl rfl rfl cf_rahead) ((rahead_any hS.1.ref (by have := hlx2H.out; have := hlx.out; omega) hN7.out (y.n 3) (y.n 4)).mono fun e w' h => ⟨h.1.trans (by rw [hS.1.same]), ⟨hS.1.next h.2, (h.2.block _ (Array.getElem?_eq_some_iff.1 hS.2).1).trans hS.2⟩⟩)) ?_
        simp only [Act.put, List.setIfInBounds_toArray, List.set_cons_zero, List.set_cons_succ]
        refine st_val (.bool false) (by rfl) (by rfl) (fun w => op_neq_intF2 rfl rfl rfl) ?_
        simp only [Act.put, List.setIfInBounds_toArray, List.set_cons_zero, List.set_cons_succ]
        refine st_val (.bool false) (by rfl) (by rfl) (fun w => op_pick rfl rfl rfl rfl rfl) ?_
        simp only [Act.put, List.setIfInBounds_toArray, List.set_cons_zero, List.set_cons_succ]
        refine st_nil ?_
        intro w9 hS9
        have hE := hide hS9.1
        clear hS9 hT7
        go_wp2
        go_roundw
        case rel => exact ⟨j + 1, LL2, vb2, Lx2, by go_num, by have := hj60'.out; omega, hE.out, by have := hlx2H.out; have := hlxj.out; omega⟩
        case measure => have := hj60'.out; simp [intOf]; omega
end Go.Proofs.YtcbckcojebanaaaDoor

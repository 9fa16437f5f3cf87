/-
  Package royaltylaw06: FactsetNil: it returns true; only new memory is written.
-/
import Derived.Test.YtnlphbfjeekooaaGreatDoorMP
import Derived.Test.YtnlphbfjeekooaaGreatDoorMT
namespace Go.Proofs.YtnlphbfjeekooaaGreatDoor
open Go.RowKit RG
theorem rvalid_x (x : RW.Fc) (h : x.2.size ≤ 2100) (W : World) : Calls Tryz.prog 41 #[RW.fv x] W fun e w' => e = .returned (.bool (RW.vdB x)) ∧ Below W.heap.size W w' := rvalid_any x.1 x.2 (by omega) W
theorem spart_empty (sb mb : Nat) (C : RW.Ents) (w : World) (h : SetAt w sb mb C) : Calls Tryz.prog 27 #[.pointer (some ⟨sb, 0, none⟩), .slice none 0 0] w fun e w' => ∃ pb qb, e = .returned (.tuple #[.pointer (some ⟨pb, 0, none⟩), .bool true]) ∧ SetAt w' pb qb [] ∧ Below w.heap.size w w' :=
  (spart_any sb mb C (.slice none 0 0) [] (by decide) w h (RowV.nil w)).mono fun e w' h => by
    rcases h with ⟨h0, ⟨_, k, h1, _⟩ | ⟨pb, qb, h1, _, h2, _, _⟩⟩
    · cases h1
    · exact ⟨pb, qb, h1, h2, h0⟩
attribute [local go_sem ↓] ldRow_fact
set_option maxRecDepth 100000 in
set_option maxHeartbeats 8000000 in
theorem nil_law (x : RW.Fc) (hx : x.2.size ≤ 9223372036854775807) (v : Value) (l : List ByteArray) (hl : l.length ≤ 9223372036854775807)
    (ks : Array Value) (hks : RW.WsOk ks RW.k0F) (w : World) (hv : StrR w v l) (hK : KLaid w ks) :
    Calls Tryz.prog 10 #[RW.fv x, v] w fun e w' => e = .returned (.bool true) ∧ Below w.heap.size w w' := by
  obtain ⟨f, s⟩ := x
  obtain ⟨cs, hcs⟩ : ∃ cs, cs = RW.fcells f s := ⟨_, rfl⟩
  rw [show RW.fv (f, s) = .agg cs by rw [hcs]; rfl]
  have hcsH := hide hcs
  obtain ⟨B, hB⟩ : ∃ B, B = w.heap.size := ⟨_, rfl⟩
  have hBH := hide hB
  have hBle := hide (show B ≤ w.heap.size by rw [hB]; exact Nat.le_refl _)
  have hKW := hide (fun W (hW : Below B w W) => RW.klaid hK (hB ▸ hW : Below w.heap.size w W))
  have hksH := hide hks
  have hSane := hide (sane_any ks hks w hK)
  rw [← hB] at hSane
  have hvA := hide (fun W (h : Below B w W) => hv.next (hB ▸ h))
  obtain ⟨va, vc, rfl, hvk, hvz⟩ := Iff.mp Iff.rfl hv
  obtain ⟨vn, hvn⟩ : ∃ n, n = l.length := ⟨_, rfl⟩
  have hvnH := hide hvn
  rw [← hvn] at hvA hvk hl ⊢
  rw [← hB]
  have hvzH := hide (show va = none → vn = 0 from by
    rintro rfl
    rcases hvz with rfl | ⟨b, o, h, _⟩
    · rw [hvn]; rfl
    · cases h)
  -- the fact that is asked about
  obtain ⟨y, hy⟩ : ∃ y : RW.Fc, y = (f, RW.cutS s) := ⟨_, rfl⟩
  have hys := hide (show y.2.size ≤ 2100 by rw [hy]; exact RW.cutS_size s)
  have hAd1 := hide (fun W => sadd_nil y W)
  have hAd2 := hide (fun W sb mb (h : SetAt W sb mb []) (hb : Below B w W) => sadd_any RW.k0F ks hksH.out sb mb [] y W h (hKW.out W hb))
  have hVd := hide (fun W => rvalid_x y hys.out W)
  obtain ⟨q, hq⟩ : ∃ q, q = RW.vdB y := ⟨_, rfl⟩
  have hadR := hide (show ∃ D : RW.Ents, RW.addR RW.k0F [] y = (q, (if q = true then 0 else 60), D) from by
    cases e : RW.vdB y with
    | true => exact ⟨_, by rw [RW.addR_new e rfl (by decide), hq, e]; rfl⟩
    | false => exact ⟨_, by rw [RW.addR_bad e, hq, e]; rfl⟩)
  rw [← hq] at hVd
  obtain ⟨ds, hds⟩ : ∃ cs, cs = RW.fcells f (RW.cutS s) := ⟨_, rfl⟩
  have hfy : RW.fv y = .agg ds := by rw [hy, hds]; rfl
  rw [hfy] at hAd1 hAd2 hVd
  have hdsH := hide hds
  obtain ⟨m, hm⟩ : ∃ m, m = min s.size 2100 := ⟨_, rfl⟩
  have hcut := hide (show s.extract 0 m = RW.cutS s by rw [hm]; rfl)
  have hmin : min ((s.size : Nat) : Int) 2100 = (m : Int) := by omega
  have hb1 : (0 : Int) ≤ (m : Int) := by omega
  have hb2 : (m : Int) ≤ (s.size : Int) := by omega
  have hA := hide (alloc_bel (Below.refl w.heap.size w) (Nat.le_refl _) (.cells cs 38))
  have hcz : cs.size = 18 := by rw [hcs]; rfl
  clear hK hks hB hv hvz hcs hy hq hds hfy hm hvn
  go_enter Tryz.func10, Tryz.ntmps10
  go_upto_region 1 with fail
  obtain ⟨fb, hfb⟩ : ∃ b, b = w.heap.size := ⟨_, rfl⟩
  refine gen_w (fun W => W.heap[fb]? = some (.cells cs 38 (0, 0)) ∧ Below B w W) ⟨by rw [hfb]; exact alloc_at1 _ _, by rw [hBH.out]; exact hA.out⟩ ?_
  rw [← hfb]
  have hfbB := hide (show B ≤ fb by rw [hfb, hBH.out]; exact Nat.le_refl _)
  clear hfb hA hSane
  rintro w1 ⟨gr1, gb1⟩
  have hr1 := hide gr1
  have hB1 := hide gb1
  have hSane := hide (sane_any ks hksH.out w1 (hKW.out w1 gb1))
  clear gr1 gb1
  go_upto_region 2 with (go_at_call 11; refine hSane.out.mono ?_; rintro e w2 ⟨rfl, h⟩; have h2 := hide (And.intro ((h.block _ (Array.getElem?_eq_some_iff.1 hr1.out).1).trans hr1.out) (bel_cat hB1.out hBle.out h)); clear h)
  have c17 : w2.cell? ⟨fb, 17, none⟩ = some (.string s) := by rw [cellAt h2.out.1, hcsH.out]; rfl
  have f17 : w2.frozen? ⟨fb, 17, none⟩ = false := by simp [World.frozen?, h2.out.1]
  clear hSane hr1 hB1
  go_upto_region 3 with fail
  rw [hcut.out]
  refine gen_w (fun W => W.heap[fb]? = some (.cells ds 38 (0, 0)) ∧ Below B w W) ⟨by rw [setCell_sameF _ _ _ _ _ _ h2.out.1, hcsH.out, hdsH.out]; rfl, h2.out.2.setCell hfbB.out _⟩ ?_
  clear c17 f17 h2 hmin hb1 hb2 hcut
  rintro w3 ⟨gr3, gb3⟩
  have hr3 := hide gr3
  have hB3 := hide gb3
  clear gr3 gb3
  -- at most ten strings
  obtain ⟨p, hp⟩ : ∃ p, p = min vn 10 := ⟨_, rfl⟩
  have hpm : min ((vn : Nat) : Int) 10 = (p : Int) := by omega
  have hp1 : (0 : Int) ≤ (p : Int) := by omega
  have hp2 : (p : Int) ≤ (vc : Int) := by omega
  have hp10 : p ≤ 10 := by omega
  have hpv : p ≤ vn := by omega
  have hA3 := alloc_bel (Below.refl w3.heap.size w3) (Nat.le_refl _) (.cells #[] 9)
  have hsl : StrR (w3.alloc (.cells #[] 9)) (.slice va p vc) (l.take p) := RowV.first (hvA.out _ (bel_cat hB3.out hBle.out hA3)) p (by rw [← hvnH.out]; exact hpv)
  obtain ⟨ui, WI, hrun, hOi, hCi⟩ := app_slF (strs_new0F (W := w3) (Nat.le_refl _)) hA3.size hsl (by rw [List.length_take]; simp; omega)
  have hWI := hide (show Below w3.heap.size w3 WI from hA3.trans (chg_bel (strs_new0F (W := w3) (Nat.le_refl _)) hA3.size hCi))
  rw [List.nil_append] at hOi
  obtain ⟨ids, hids⟩ : ∃ i, i = l.take p := ⟨_, rfl⟩
  rw [← hids] at hOi
  have hOi2 := hide (strs_own hOi)
  have hidl : ids.length ≤ 10 := by rw [hids, List.length_take]; omega
  obtain ⟨ai, ci, rfl, _, _⟩ := Iff.mp Iff.rfl hOi2.out
  obtain ⟨n, hn⟩ : ∃ n, n = ids.length := ⟨_, rfl⟩
  have hnH := hide hn
  rw [← hn] at hOi2 hidl
  rw [← hn] at hrun
  clear hA3 hsl hOi hCi hids hn hp hpv
  go_cut [1] (fun sl wx => sl = .slice ai n ci ∧ wx = WI)
  case first =>
    cases va with
    | none =>
      obtain rfl := hvzH.out rfl
      obtain rfl : p = 0 := by omega
      go_wp2_with (at_builtin; refine wpList_app_run rfl (.tmp 33) (.tmp 38) rfl rfl rfl hrun ?_)
      all_goals go_meet
      all_goals exact ⟨rfl, rfl⟩
    | some ad =>
      go_wp2_with (at_builtin; refine wpList_app_run rfl (.tmp 33) (.tmp 38) rfl rfl rfl hrun ?_)
      all_goals go_meet
      all_goals exact ⟨rfl, rfl⟩
  case rest =>
    obtain ⟨rfl, hwx⟩ := hcut
    have hwx' := hwx.symm
    subst hwx'
    have hWIH := hWI
    have hFl := hide (fun W (h : Below WI.heap.size WI W) => (fact_ldF (((hWI.out.trans (h.mono hWI.out.size)).block _ (Array.getElem?_eq_some_iff.1 hr3.out).1).trans hr3.out) (by rw [hdsH.out]; rfl) : (ldRow 38 (.pointer (some ⟨fb, 0, none⟩))).run Tryz.prog W = .ok (.agg ds) W))
    have hB4 := hide (bel_cat hB3.out hBle.out hWI.out)
    have hBB := hide (fun W (h : Below WI.heap.size WI W) => bel_cat hB4.out hBle.out h)
    have hId := hide (fun W (h : Below WI.heap.size WI W) => hOi2.out.next h)
    clear hrun hWIH hr3 hvA hvzH hvnH hpm hp1 hp2
    go_upto_region 6 with (go_at_call 19; refine (snew_any _).mono ?_; rintro e w5 ⟨sb, mb, rfl, g1, g2, g3, g4⟩; have h5 := hide (And.intro g1 (And.intro g2 g4)); clear g1 g2 g3 g4)
    have hmbI := hide h5.out.2.2
    have hl5 := hFl.out _ h5.out.2.1
    go_upto_region 7 with (go_at_call 20; refine (hAd1.out _).mono ?_; rintro e w6 ⟨rfl, g⟩; have h6 := hide (And.intro (h5.out.1.next g) (h5.out.2.1.trans (g.mono h5.out.2.1.size))); clear g)
    clear hl5 h5
    have hl6 := hFl.out _ h6.out.2
    obtain ⟨D, hD⟩ := hadR.out
    have hAd6 := hide (hAd2.out w6 sb mb h6.out.1 (hBB.out _ h6.out.2))
    rw [hD] at hAd6
    obtain ⟨eq, heq⟩ : ∃ e : Int, e = if q = true then 0 else 60 := ⟨_, rfl⟩
    rw [← heq] at hAd6
    have heqH := hide heq
    clear heq hD
    go_upto_region 8 with (go_at_call 20; refine hAd6.out.mono ?_; rintro e w7 ⟨rfl, g1, g2⟩; have h7 := hide (And.intro g1 (h6.out.2.trans (g2.belowJ (B := WI.heap.size) (fun k e => by rw [e]; exact hmbI.out) h6.out.2.size))); clear g1 g2)
    clear hl6 hAd6 h6 hAd1 hAd2 hadR
    obtain ⟨zs, hzs⟩ : ∃ cs, cs = RW.fcells RW.zeroFv.1 RW.zeroFv.2 := ⟨_, rfl⟩
    have hGn := hide (fun W => (show Calls Tryz.prog 35 #[.pointer none, .string ⟨#[]⟩] W fun e w' => e = .returned (.tuple #[.agg zs, .bool false]) ∧ Below W.heap.size W w' from by rw [hzs]; exact sget_nil ⟨#[]⟩ W))
    have hfi := fact_infoF RW.zeroFv.1 RW.zeroFv.2
    have hf1 := fcells_oneF RW.zeroFv.1 RW.zeroFv.2
    have hzz : zs.size = 18 := by rw [hzs]; rfl
    rw [← hzs] at hfi hf1
    clear hzs
    go_upto_region 9 with (first
      | (go_at_call 35; refine (hGn.out _).mono ?_; rintro e w8 ⟨rfl, g⟩; have h8 := hide (And.intro (h7.out.1.next g) (h7.out.2.trans (g.mono h7.out.2.size))); clear g)
      | (refine wpList_store_newF rfl 38 (.tmp 12) (.tmp 56) rfl zs rfl rfl 38 _ hfi (by rw [hzz]; rfl) hf1 ?_))
    have hA8 := alloc_bel (Below.refl w8.heap.size w8) (Nat.le_refl _) (.cells zs 38)
    refine gen_w (fun W => SetAt W sb mb D ∧ Below WI.heap.size WI W) ⟨h8.out.1.next hA8, h8.out.2.trans (hA8.mono h8.out.2.size)⟩ ?_
    clear hA8 h8 hfi hf1 h7
    rintro w9 ⟨g91, g92⟩
    have h9 := hide (And.intro g91 g92)
    clear g91 g92
    go_upto_region 10 with (go_at_call 27; refine (spart_nil _ _).mono ?_; rintro e w9' ⟨rfl, h⟩; obtain rfl := h.symm)
    have hPe := hide (spart_empty sb mb D w9 h9.out.1)
    go_upto_region 11 with (go_at_call 27; refine hPe.out.mono ?_; rintro e w10 ⟨pb, qb, rfl, g1, g⟩; have h10 := hide (And.intro (h9.out.1.next g) (And.intro g1 (h9.out.2.trans (g.mono h9.out.2.size)))); clear g1 g)
    clear hPe h9
    have hMs := hide (smiss_any none (fun _ => false) _ ids (by rw [← hnH.out]; omega) w10 (hasP_nil w10) (hId.out _ h10.out.2.2))
    obtain ⟨ms, hms⟩ : ∃ m, m = RW.missB (fun _ => false) ids := ⟨_, rfl⟩
    have hmA := hide (show RW.AscB ms by rw [hms]; exact RW.uqB_asc _)
    have hmM := hide (show ∀ z, z ∈ ids → z ∈ ms by rw [hms]; exact fun z hz => RW.mem_missB.2 ⟨hz, rfl⟩)
    have hml := hide (show ms.length ≤ 10 by rw [hms]; exact Nat.le_trans (RW.missB_len _ _) (by rw [← hnH.out]; exact hidl))
    rw [← hms] at hMs
    clear hms
    go_upto_region 12 with (go_at_call 32; refine hMs.out.mono ?_; rintro e wM ⟨uM, rfl, g1, g⟩; have hM := hide (And.intro (h10.out.1.next g) (And.intro (h10.out.2.1.next g) (And.intro (h10.out.2.2.trans (g.mono h10.out.2.2.size)) (strs_own g1)))); clear g1 g)
    clear hMs h10
    have hMr := hide hM.out.2.2.2
    obtain ⟨aM, cM, rfl, _, _⟩ := Iff.mp Iff.rfl hMr.out
    obtain ⟨mn, hmn⟩ : ∃ n, n = ms.length := ⟨_, rfl⟩
    have hmnH := hide hmn
    rw [← hmn] at hMr hml ⊢
    have hmn10 : mn ≤ 10 := hml.out
    have hIr := hide (hId.out wM hM.out.2.2.1)
    have hMst := hide (show SetAt wM sb mb D ∧ SetAt wM pb qb [] ∧ Below B w wM from ⟨hM.out.1, hM.out.2.1, hBB.out _ hM.out.2.2.1⟩)
    have hlM := hide (fun W (h : Below wM.heap.size wM W) => hFl.out W (hM.out.2.2.1.trans (h.mono hM.out.2.2.1.size)))
    clear hmn hM hFl hBB hId hml
    go_wp2
    go_loopw [19] (fun i wr => ∃ (j : Nat), i = .int .i64 j ∧ j ≤ mn ∧ Hid (Below wM.heap.size wM wr)) (fun i _ => mn - (intOf i).toNat)
    case atStart => exact ⟨0, rfl, Nat.zero_le _, Below.refl _ _⟩
    case round =>
      obtain ⟨j, rfl, hj, hQ⟩ := hrel
      obtain ⟨wo, hwo⟩ : ∃ wo, wo = wr := ⟨_, rfl⟩
      subst hwo
      by_cases hjn : j < mn
      · obtain ⟨r, hr⟩ : ∃ r, ms[j]? = some r := ⟨_, List.getElem?_eq_getElem (by rw [← hmnH.out]; exact hjn)⟩
        obtain ⟨g0, o0, c0, e', hcell⟩ := strR_cell (W' := wo) (by have h := hMr.out; rw [hmnH.out] at h; exact h) hr
        rw [← hmnH.out] at e'
        have hcellH := hide hcell
        have hprev := hide (show 0 < j → ∃ r2, RW.blt r2 r = true ∧ ∀ W', Below wM.heap.size wM W' → W'.cell? ⟨g0, o0 + (j - 1), none⟩ = some (.string r2) from fun h0 => by
          obtain ⟨r2, hr2⟩ : ∃ r, ms[j - 1]? = some r := ⟨_, List.getElem?_eq_getElem (by rw [← hmnH.out]; omega)⟩
          obtain ⟨g2, o2, c2, e3, hc3⟩ := strR_cell (W' := wo) (by have h := hMr.out; rw [hmnH.out] at h; exact h) hr2
          rw [← hmnH.out, e'] at e3
          cases e3
          refine ⟨r2, ?_, hc3⟩
          have hp := hmA.out
          unfold RW.AscB at hp
          obtain ⟨h1, h2⟩ := List.getElem?_eq_some_iff.1 hr2
          obtain ⟨h3, h4'⟩ := List.getElem?_eq_some_iff.1 hr
          have := List.pairwise_iff_getElem.1 hp (j - 1) j h1 h3 (by omega)
          rw [h2, h4'] at this
          exact this)
        cases e'
        clear hcell hr
        go_upto_region 15 with fail
        by_cases hj0 : 0 < j
        · obtain ⟨r2, hlt, hc2⟩ := hprev.out hj0
          have hltH := hide hlt
          have hc2H := hide hc2
          clear hlt hc2
          refine wp_region_k (fun _ W => Below wM.heap.size wM W) (fun _ => True) [] (.op 0 (.op 1 (.op 2 (.op 3 (.op 4 (.op 5 (.op 6 (.op 7 (.op 8 (.op 9 (.op 10 (.op 11 (.op 12 (.op 13 .nil)))))))))))))) (by kernel_rfl) (by kernel_rfl) (by rfl) (by kernel_rfl) hQ.out.drew trivial ?_
          refine k_val (.int .i64 (j : Int)) (by apply opN; repeat' (first | apply OpAt.z | apply OpAt.s)) (by rfl) (by rfl) (fun _ W hS => op_mv rfl rfl) ?_
          simp only [Act.put, List.setIfInBounds_toArray, List.set_cons_zero, List.set_cons_succ]
          refine k_val (.bool true) (by apply opN; repeat' (first | apply OpAt.z | apply OpAt.s)) (by rfl) (by rfl) (fun _ W hS => op_gtD rfl rfl rfl (by simpa using hj0)) ?_
          simp only [Act.put, List.setIfInBounds_toArray, List.set_cons_zero, List.set_cons_succ]
          refine k_val (.bool true) (by apply opN; repeat' (first | apply OpAt.z | apply OpAt.s)) (by rfl) (by rfl) (fun _ W hS => op_mv rfl rfl) ?_
          simp only [Act.put, List.setIfInBounds_toArray, List.set_cons_zero, List.set_cons_succ]
          refine k_val (.slice (some ⟨g0, o0, none⟩) mn cM) (by apply opN; repeat' (first | apply OpAt.z | apply OpAt.s)) (by rfl) (by rfl) (fun _ W hS => op_mv rfl rfl) ?_
          simp only [Act.put, List.setIfInBounds_toArray, List.set_cons_zero, List.set_cons_succ]
          refine k_val (.int .i64 (j : Int)) (by apply opN; repeat' (first | apply OpAt.z | apply OpAt.s)) (by rfl) (by rfl) (fun _ W hS => op_mv rfl rfl) ?_
          simp only [Act.put, List.setIfInBounds_toArray, List.set_cons_zero, List.set_cons_succ]
          refine k_val (.pointer (some ⟨g0, o0 + j, none⟩)) (by apply opN; repeat' (first | apply OpAt.z | apply OpAt.s)) (by rfl) (by rfl) (fun _ W hS => op_idx_s rfl rfl rfl hjn) ?_
          simp only [Act.put, List.setIfInBounds_toArray, List.set_cons_zero, List.set_cons_succ]
          refine k_val (.string r) (by apply opN; repeat' (first | apply OpAt.z | apply OpAt.s)) (by rfl) (by rfl) (fun _ W hS => op_ld rfl rfl (str_ld (hcellH.out W hS))) ?_
          simp only [Act.put, List.setIfInBounds_toArray, List.set_cons_zero, List.set_cons_succ]
          refine k_val (.slice (some ⟨g0, o0, none⟩) mn cM) (by apply opN; repeat' (first | apply OpAt.z | apply OpAt.s)) (by rfl) (by rfl) (fun _ W hS => op_mv rfl rfl) ?_
          simp only [Act.put, List.setIfInBounds_toArray, List.set_cons_zero, List.set_cons_succ]
          refine k_val (.int .i64 (j : Int)) (by apply opN; repeat' (first | apply OpAt.z | apply OpAt.s)) (by rfl) (by rfl) (fun _ W hS => op_mv rfl rfl) ?_
          simp only [Act.put, List.setIfInBounds_toArray, List.set_cons_zero, List.set_cons_succ]
          refine k_val (.int .i64 ((j - 1 : Nat) : Int)) (by apply opN; repeat' (first | apply OpAt.z | apply OpAt.s)) (by rfl) (by rfl) (fun _ W hS => op_subD rfl rfl rfl (by omega) (by omega)) ?_
          simp only [Act.put, List.setIfInBounds_toArray, List.set_cons_zero, List.set_cons_succ]
          refine k_val (.pointer (some ⟨g0, o0 + (j - 1), none⟩)) (by apply opN; repeat' (first | apply OpAt.z | apply OpAt.s)) (by rfl) (by rfl) (fun _ W hS => op_idx_s rfl rfl rfl (by omega)) ?_
          simp only [Act.put, List.setIfInBounds_toArray, List.set_cons_zero, List.set_cons_succ]
          refine k_val (.string r2) (by apply opN; repeat' (first | apply OpAt.z | apply OpAt.s)) (by rfl) (by rfl) (fun _ W hS => op_ld rfl rfl (str_ld (hc2H.out W hS))) ?_
          simp only [Act.put, List.setIfInBounds_toArray, List.set_cons_zero, List.set_cons_succ]
          refine k_val (.bool false) (by apply opN; repeat' (first | apply OpAt.z | apply OpAt.s)) (by rfl) (by rfl) (fun _ W hS => op_leS rfl rfl rfl (by rw [hltH.out]; rfl)) ?_
          simp only [Act.put, List.setIfInBounds_toArray, List.set_cons_zero, List.set_cons_succ]
          refine k_val (.bool false) (by apply opN; repeat' (first | apply OpAt.z | apply OpAt.s)) (by rfl) (by rfl) (fun _ W hS => op_pk rfl rfl rfl rfl rfl) ?_
          simp only [Act.put, List.setIfInBounds_toArray, List.set_cons_zero, List.set_cons_succ]
          refine k_nil ?_
          intro W hCW _
          have hCWH := hide (show Below wM.heap.size wM W from hCW)
          clear hCW
          go_wp2
          go_roundw
          case rel => exact ⟨j + 1, by go_num, by omega, hCWH.out⟩
          case measure => simp [intOf]; omega
        · clear hprev
          refine wp_region_k (fun _ W => Below wM.heap.size wM W) (fun _ => True) [] (.op 0 (.op 1 (.op 2 (.op 3 (.op 4 (.op 5 (.op 6 (.op 7 (.op 8 (.op 9 (.op 10 (.op 11 (.op 12 (.op 13 .nil)))))))))))))) (by kernel_rfl) (by kernel_rfl) (by rfl) (by kernel_rfl) hQ.out.drew trivial ?_
          refine k_val (.int .i64 (j : Int)) (by apply opN; repeat' (first | apply OpAt.z | apply OpAt.s)) (by rfl) (by rfl) (fun _ W hS => op_mv rfl rfl) ?_
          simp only [Act.put, List.setIfInBounds_toArray, List.set_cons_zero, List.set_cons_succ]
          refine k_val (.bool false) (by apply opN; repeat' (first | apply OpAt.z | apply OpAt.s)) (by rfl) (by rfl) (fun _ W hS => op_gtD rfl rfl rfl (by simpa using hj0)) ?_
          simp only [Act.put, List.setIfInBounds_toArray, List.set_cons_zero, List.set_cons_succ]
          refine k_val (.bool false) (by apply opN; repeat' (first | apply OpAt.z | apply OpAt.s)) (by rfl) (by rfl) (fun _ W hS => op_mv rfl rfl) ?_
          simp only [Act.put, List.setIfInBounds_toArray, List.set_cons_zero, List.set_cons_succ]
          refine k_skip (by apply opN; repeat' (first | apply OpAt.z | apply OpAt.s)) (by rfl) (by rfl) ?_
          simp only [Act.put, List.setIfInBounds_toArray, List.set_cons_zero, List.set_cons_succ]
          refine k_skip (by apply opN; repeat' (first | apply OpAt.z | apply OpAt.s)) (by rfl) (by rfl) ?_
          simp only [Act.put, List.setIfInBounds_toArray, List.set_cons_zero, List.set_cons_succ]
          refine k_skip (by apply opN; repeat' (first | apply OpAt.z | apply OpAt.s)) (by rfl) (by rfl) ?_
          simp only [Act.put, List.setIfInBounds_toArray, List.set_cons_zero, List.set_cons_succ]
          refine k_skip (by apply opN; repeat' (first | apply OpAt.z | apply OpAt.s)) (by rfl) (by rfl) ?_
          simp only [Act.put, List.setIfInBounds_toArray, List.set_cons_zero, List.set_cons_succ]
          refine k_skip (by apply opN; repeat' (first | apply OpAt.z | apply OpAt.s)) (by rfl) (by rfl) ?_
          simp only [Act.put, List.setIfInBounds_toArray, List.set_cons_zero, List.set_cons_succ]
          refine k_skip (by apply opN; repeat' (first | apply OpAt.z | apply OpAt.s)) (by rfl) (by rfl) ?_
          simp only [Act.put, List.setIfInBounds_toArray, List.set_cons_zero, List.set_cons_succ]
          refine k_skip (by apply opN; repeat' (first | apply OpAt.z | apply OpAt.s)) (by rfl) (by rfl) ?_
          simp only [Act.put, List.setIfInBounds_toArray, List.set_cons_zero, List.set_cons_succ]
          refine k_skip (by apply opN; repeat' (first | apply OpAt.z | apply OpAt.s)) (by rfl) (by rfl) ?_
          simp only [Act.put, List.setIfInBounds_toArray, List.set_cons_zero, List.set_cons_succ]
          refine k_skip (by apply opN; repeat' (first | apply OpAt.z | apply OpAt.s)) (by rfl) (by rfl) ?_
          simp only [Act.put, List.setIfInBounds_toArray, List.set_cons_zero, List.set_cons_succ]
          refine k_skip (by apply opN; repeat' (first | apply OpAt.z | apply OpAt.s)) (by rfl) (by rfl) ?_
          simp only [Act.put, List.setIfInBounds_toArray, List.set_cons_zero, List.set_cons_succ]
          refine k_val (.bool false) (by apply opN; repeat' (first | apply OpAt.z | apply OpAt.s)) (by rfl) (by rfl) (fun _ W hS => op_pk rfl rfl (hy := rfl) rfl rfl) ?_
          simp only [Act.put, List.setIfInBounds_toArray, List.set_cons_zero, List.set_cons_succ]
          refine k_nil ?_
          intro W hCW _
          have hCWH := hide (show Below wM.heap.size wM W from hCW)
          clear hCW
          go_wp2
          go_roundw
          case rel => exact ⟨j + 1, by go_num, by omega, hCWH.out⟩
          case measure => simp [intOf]; omega
      · obtain rfl : mn = j := by omega
        go_wp2
        go_loopw [20, 21, 22] (fun i _ _ wr => ∃ (j : Nat), i = .int .i64 j ∧ j ≤ n ∧ Hid (Below wM.heap.size wM wr)) (fun i _ _ _ => n - (intOf i).toNat)
        case atStart => exact ⟨0, rfl, Nat.zero_le _, hQ.out⟩
        case round =>
          obtain ⟨i, rfl, hi, hT⟩ := hrel
          obtain ⟨wp, hwp⟩ : ∃ wp, wp = wr := ⟨_, rfl⟩
          subst hwp
          by_cases hin : i < n
          · obtain ⟨z, hz⟩ : ∃ r, ids[i]? = some r := ⟨_, List.getElem?_eq_getElem (by rw [← hnH.out]; exact hin)⟩
            obtain ⟨g1, o1, c1, e', hcellI⟩ := strR_cell (W' := wp) (by have h := hIr.out; rw [hnH.out] at h; exact h) hz
            cases e'
            have hcellIH := hide hcellI
            have hzm := hide (hmM.out z (List.mem_of_getElem? hz))
            clear hcellI hz
            go_wp2
            go_loopw [21, 22] (fun fd k wr => ∃ (k' : Nat) (t : Bool), fd = .bool t ∧ k = .int .i64 k' ∧ k' ≤ mn ∧ Hid ((t = true ↔ z ∈ ms.take k') ∧ Below wM.heap.size wM wr)) (fun _ k _ => mn - (intOf k).toNat)
            case atStart => exact ⟨0, false, rfl, rfl, Nat.zero_le _, (by simp), hT.out⟩
            case round =>
              obtain ⟨k, t, rfl, rfl, hk, hU⟩ := hrel
              obtain ⟨wq, hwq⟩ : ∃ wq, wq = wr := ⟨_, rfl⟩
              subst hwq
              by_cases hkm : k < mn
              · obtain ⟨r, hr⟩ : ∃ r, ms[k]? = some r := ⟨_, List.getElem?_eq_getElem (by rw [← hmnH.out]; exact hkm)⟩
                obtain ⟨g0, o0, c0, e', hcell⟩ := strR_cell (W' := wq) (by have h := hMr.out; rw [hmnH.out] at h; exact h) hr
                cases e'
                have hcellH := hide hcell
                have htk := hide (show ms.take (k + 1) = ms.take k ++ [r] from RW.take_snocE hr)
                clear hcell hr
                go_upto_region 24 with fail
                cases t with
                | true =>
                  refine wp_region_k (fun _ W => Below wM.heap.size wM W) (fun _ => True) [] (.op 0 (.op 1 (.op 2 (.op 3 (.op 4 (.op 5 (.op 6 (.op 7 (.op 8 (.op 9 (.op 10 (.op 11 (.op 12 .nil))))))))))))) (by kernel_rfl) (by kernel_rfl) (by rfl) (by kernel_rfl) hU.out.2.drew trivial ?_
                  refine k_val (.bool true) (by apply opN; repeat' (first | apply OpAt.z | apply OpAt.s)) (by rfl) (by rfl) (fun _ W hS => op_mv rfl rfl) ?_
                  simp only [Act.put, List.setIfInBounds_toArray, List.set_cons_zero, List.set_cons_succ]
                  refine k_val (.bool true) (by apply opN; repeat' (first | apply OpAt.z | apply OpAt.s)) (by rfl) (by rfl) (fun _ W hS => op_mv rfl rfl) ?_
                  simp only [Act.put, List.setIfInBounds_toArray, List.set_cons_zero, List.set_cons_succ]
                  refine k_skip (by apply opN; repeat' (first | apply OpAt.z | apply OpAt.s)) (by rfl) (by rfl) ?_
                  simp only [Act.put, List.setIfInBounds_toArray, List.set_cons_zero, List.set_cons_succ]
                  refine k_skip (by apply opN; repeat' (first | apply OpAt.z | apply OpAt.s)) (by rfl) (by rfl) ?_
                  simp only [Act.put, List.setIfInBounds_toArray, List.set_cons_zero, List.set_cons_succ]
                  refine k_skip (by apply opN; repeat' (first | apply OpAt.z | apply OpAt.s)) (by rfl) (by rfl) ?_
                  simp only [Act.put, List.setIfInBounds_toArray, List.set_cons_zero, List.set_cons_succ]
                  refine k_skip (by apply opN; repeat' (first | apply OpAt.z | apply OpAt.s)) (by rfl) (by rfl) ?_
                  simp only [Act.put, List.setIfInBounds_toArray, List.set_cons_zero, List.set_cons_succ]
                  refine k_skip (by apply opN; repeat' (first | apply OpAt.z | apply OpAt.s)) (by rfl) (by rfl) ?_
                  simp only [Act.put, List.setIfInBounds_toArray, List.set_cons_zero, List.set_cons_succ]
                  refine k_skip (by apply opN; repeat' (first | apply OpAt.z | apply OpAt.s)) (by rfl) (by rfl) ?_
                  simp only [Act.put, List.setIfInBounds_toArray, List.set_cons_zero, List.set_cons_succ]
                  refine k_skip (by apply opN; repeat' (first | apply OpAt.z | apply OpAt.s)) (by rfl) (by rfl) ?_
                  simp only [Act.put, List.setIfInBounds_toArray, List.set_cons_zero, List.set_cons_succ]
                  refine k_skip (by apply opN; repeat' (first | apply OpAt.z | apply OpAt.s)) (by rfl) (by rfl) ?_
                  simp only [Act.put, List.setIfInBounds_toArray, List.set_cons_zero, List.set_cons_succ]
                  refine k_skip (by apply opN; repeat' (first | apply OpAt.z | apply OpAt.s)) (by rfl) (by rfl) ?_
                  simp only [Act.put, List.setIfInBounds_toArray, List.set_cons_zero, List.set_cons_succ]
                  refine k_val (.bool true) (by apply opN; repeat' (first | apply OpAt.z | apply OpAt.s)) (by rfl) (by rfl) (fun _ W hS => op_pk rfl rfl rfl (hz := rfl) rfl) ?_
                  simp only [Act.put, List.setIfInBounds_toArray, List.set_cons_zero, List.set_cons_succ]
                  refine k_val (.bool true) (by apply opN; repeat' (first | apply OpAt.z | apply OpAt.s)) (by rfl) (by rfl) (fun _ W hS => op_asg rfl rfl) ?_
                  simp only [Act.put, List.setIfInBounds_toArray, List.set_cons_zero, List.set_cons_succ]
                  refine k_nil ?_
                  intro W hCW _
                  have hCWH := hide (show Below wM.heap.size wM W from hCW)
                  clear hCW
                  go_wp2
                  go_roundw
                  case rel => exact ⟨k + 1, true, rfl, by go_num, by omega, ⟨fun _ => by rw [htk.out]; exact List.mem_append_left _ (hU.out.1.1 rfl), fun _ => rfl⟩, hCWH.out⟩
                  case measure => simp [intOf]; omega
                | false =>
                  obtain ⟨t2, ht2⟩ : ∃ t2, decide (r = z) = t2 := ⟨_, rfl⟩
                  have ht2H := hide ht2
                  clear ht2
                  refine wp_region_k (fun _ W => Below wM.heap.size wM W) (fun _ => True) [] (.op 0 (.op 1 (.op 2 (.op 3 (.op 4 (.op 5 (.op 6 (.op 7 (.op 8 (.op 9 (.op 10 (.op 11 (.op 12 .nil))))))))))))) (by kernel_rfl) (by kernel_rfl) (by rfl) (by kernel_rfl) hU.out.2.drew trivial ?_
                  refine k_val (.bool false) (by apply opN; repeat' (first | apply OpAt.z | apply OpAt.s)) (by rfl) (by rfl) (fun _ W hS => op_mv rfl rfl) ?_
                  simp only [Act.put, List.setIfInBounds_toArray, List.set_cons_zero, List.set_cons_succ]
                  refine k_val (.bool false) (by apply opN; repeat' (first | apply OpAt.z | apply OpAt.s)) (by rfl) (by rfl) (fun _ W hS => op_mv rfl rfl) ?_
                  simp only [Act.put, List.setIfInBounds_toArray, List.set_cons_zero, List.set_cons_succ]
                  refine k_val (.slice (some ⟨g0, o0, none⟩) mn cM) (by apply opN; repeat' (first | apply OpAt.z | apply OpAt.s)) (by rfl) (by rfl) (fun _ W hS => op_mv rfl rfl) ?_
                  simp only [Act.put, List.setIfInBounds_toArray, List.set_cons_zero, List.set_cons_succ]
                  refine k_val (.int .i64 (k : Int)) (by apply opN; repeat' (first | apply OpAt.z | apply OpAt.s)) (by rfl) (by rfl) (fun _ W hS => op_mv rfl rfl) ?_
                  simp only [Act.put, List.setIfInBounds_toArray, List.set_cons_zero, List.set_cons_succ]
                  refine k_val (.pointer (some ⟨g0, o0 + k, none⟩)) (by apply opN; repeat' (first | apply OpAt.z | apply OpAt.s)) (by rfl) (by rfl) (fun _ W hS => op_idx_s rfl rfl rfl hkm) ?_
                  simp only [Act.put, List.setIfInBounds_toArray, List.set_cons_zero, List.set_cons_succ]
                  refine k_val (.string r) (by apply opN; repeat' (first | apply OpAt.z | apply OpAt.s)) (by rfl) (by rfl) (fun _ W hS => op_ld rfl rfl (str_ld (hcellH.out W hS))) ?_
                  simp only [Act.put, List.setIfInBounds_toArray, List.set_cons_zero, List.set_cons_succ]
                  refine k_val (.slice (some ⟨g1, o1, none⟩) n ci) (by apply opN; repeat' (first | apply OpAt.z | apply OpAt.s)) (by rfl) (by rfl) (fun _ W hS => op_mv rfl rfl) ?_
                  simp only [Act.put, List.setIfInBounds_toArray, List.set_cons_zero, List.set_cons_succ]
                  refine k_val (.int .i64 (i : Int)) (by apply opN; repeat' (first | apply OpAt.z | apply OpAt.s)) (by rfl) (by rfl) (fun _ W hS => op_mv rfl rfl) ?_
                  simp only [Act.put, List.setIfInBounds_toArray, List.set_cons_zero, List.set_cons_succ]
                  refine k_val (.pointer (some ⟨g1, o1 + i, none⟩)) (by apply opN; repeat' (first | apply OpAt.z | apply OpAt.s)) (by rfl) (by rfl) (fun _ W hS => op_idx_s rfl rfl rfl hin) ?_
                  simp only [Act.put, List.setIfInBounds_toArray, List.set_cons_zero, List.set_cons_succ]
                  refine k_val (.string z) (by apply opN; repeat' (first | apply OpAt.z | apply OpAt.s)) (by rfl) (by rfl) (fun _ W hS => op_ld rfl rfl (str_ld (hcellIH.out W hS))) ?_
                  simp only [Act.put, List.setIfInBounds_toArray, List.set_cons_zero, List.set_cons_succ]
                  refine k_val (.bool t2) (by apply opN; repeat' (first | apply OpAt.z | apply OpAt.s)) (by rfl) (by rfl) (fun _ W hS => op_eqS rfl rfl rfl ht2H.out) ?_
                  simp only [Act.put, List.setIfInBounds_toArray, List.set_cons_zero, List.set_cons_succ]
                  refine k_val (.bool t2) (by apply opN; repeat' (first | apply OpAt.z | apply OpAt.s)) (by rfl) (by rfl) (fun _ W hS => op_pk rfl rfl rfl rfl rfl) ?_
                  simp only [Act.put, List.setIfInBounds_toArray, List.set_cons_zero, List.set_cons_succ]
                  refine k_val (.bool t2) (by apply opN; repeat' (first | apply OpAt.z | apply OpAt.s)) (by rfl) (by rfl) (fun _ W hS => op_asg rfl rfl) ?_
                  simp only [Act.put, List.setIfInBounds_toArray, List.set_cons_zero, List.set_cons_succ]
                  refine k_nil ?_
                  intro W hCW _
                  have hCWH := hide (show Below wM.heap.size wM W from hCW)
                  clear hCW
                  go_wp2
                  go_roundw
                  case rel =>
                    refine ⟨k + 1, t2, rfl, by go_num, by omega, ⟨fun h => ?_, fun h => ?_⟩, hCWH.out⟩
                    · rw [htk.out]
                      rw [← ht2H.out, decide_eq_true_eq] at h
                      exact List.mem_append_right _ (by rw [h]; exact List.mem_singleton.2 rfl)
                    · rw [htk.out] at h
                      rw [← ht2H.out, decide_eq_true_eq]
                      rcases List.mem_append.1 h with h | h
                      · exact absurd (hU.out.1.2 h) (by simp)
                      · exact (List.mem_singleton.1 h).symm
                  case measure => simp [intOf]; omega
              · obtain rfl : mn = k := by omega
                have htt : t = true := hU.out.1.2 (by rw [hmnH.out, List.take_length]; exact hzm.out)
                subst htt
                go_wp2
                go_roundw
                case rel => exact ⟨i + 1, by go_num, by omega, hU.out.2⟩
                case measure => simp [intOf]; omega
          · obtain rfl : n = i := by omega
            have hlp := hlM.out wp hT.out
            have hIe := hide (And.intro (hMst.out.1.next hT.out) (And.intro (hMst.out.2.1.next hT.out) (bel_cat hMst.out.2.2 hBle.out hT.out)))
            clear hQ hT hMst
            go_upto_region 28 with (go_at_call 41; refine (hVd.out _).mono ?_; rintro e wV ⟨rfl, g⟩; have hV := hide (And.intro (hIe.out.1.next g) (And.intro (hIe.out.2.1.next g) (bel_cat hIe.out.2.2 hBle.out g))); clear g)
            clear hlp hlM hVd hIe
            have tokU : True := trivial
            have tokL : True := trivial
            have hU2 := hide (fun W => sunion_nil2 sb W)
            have hU1 := hide (fun W => sunion_nil1 (.pointer (some ⟨sb, 0, none⟩)) W)
            have hLp := hide (fun W (h : SetAt W pb qb []) => slen_any pb qb [] W h)
            rw [show (([] : RW.Ents).length : Int) = 0 from rfl] at hLp
            have hHn := hide (fun W => shas_nil ⟨#[]⟩ W)
            have hq' := heqH.out
            cases q with
            | true =>
              obtain rfl : eq = 0 := hq'
              clear heqH
              go_wp2_with (first
                | (go_at_call 37; refine (hHn.out _).mono ?_; rintro e wa ⟨rfl, g⟩; have ha := hide (And.intro (hV.out.2.1.next g) (bel_cat hV.out.2.2 hBle.out g)); clear g)
                | (go_at_call 23; have _t := tokL; refine (hLp.out _ ha.out.1).mono ?_; rintro e wL ⟨rfl, h⟩; obtain rfl := h.symm; clear tokL _t)
                | (go_at_call 14; refine (sids_nil _).mono ?_; rintro e wb ⟨rfl, g⟩; have hb := hide (bel_cat ha.out.2 hBle.out g); clear g)
                | (go_at_call 30; refine (sfacts_nil _).mono ?_; rintro e wc ⟨rfl, g⟩; have hc := hide (bel_cat hb.out hBle.out g); clear g)
                | (go_at_call 16; refine (sroot_nil _).mono ?_; rintro e wL ⟨rfl, h⟩; obtain rfl := h.symm)
                | (go_at_call 23; refine (slen_nil _).mono ?_; rintro e wL ⟨rfl, h⟩; obtain rfl := h.symm)
                | (go_at_call 22; have _t := tokU; refine (hU1.out _).mono ?_; rintro e wL ⟨rfl, h⟩; obtain rfl := h.symm; clear tokU _t)
                | (go_at_call 22; refine (hU2.out _).mono ?_; rintro e wL ⟨rfl, h⟩; obtain rfl := h.symm))
              go_ret
              exact ⟨by simp, hc.out⟩
            | false =>
              obtain rfl : eq = 60 := hq'
              clear heqH
              go_wp2_with (first
                | (go_at_call 37; refine (hHn.out _).mono ?_; rintro e wa ⟨rfl, g⟩; have ha := hide (And.intro (hV.out.2.1.next g) (bel_cat hV.out.2.2 hBle.out g)); clear g)
                | (go_at_call 23; have _t := tokL; refine (hLp.out _ ha.out.1).mono ?_; rintro e wL ⟨rfl, h⟩; obtain rfl := h.symm; clear tokL _t)
                | (go_at_call 14; refine (sids_nil _).mono ?_; rintro e wb ⟨rfl, g⟩; have hb := hide (bel_cat ha.out.2 hBle.out g); clear g)
                | (go_at_call 30; refine (sfacts_nil _).mono ?_; rintro e wc ⟨rfl, g⟩; have hc := hide (bel_cat hb.out hBle.out g); clear g)
                | (go_at_call 16; refine (sroot_nil _).mono ?_; rintro e wL ⟨rfl, h⟩; obtain rfl := h.symm)
                | (go_at_call 23; refine (slen_nil _).mono ?_; rintro e wL ⟨rfl, h⟩; obtain rfl := h.symm)
                | (go_at_call 22; have _t := tokU; refine (hU1.out _).mono ?_; rintro e wL ⟨rfl, h⟩; obtain rfl := h.symm; clear tokU _t)
                | (go_at_call 22; refine (hU2.out _).mono ?_; rintro e wL ⟨rfl, h⟩; obtain rfl := h.symm))
              go_ret
              exact ⟨by simp, hc.out⟩

end Go.Proofs.YtnlphbfjeekooaaGreatDoor

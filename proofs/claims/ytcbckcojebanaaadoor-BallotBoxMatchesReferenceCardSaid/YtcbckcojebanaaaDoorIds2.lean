/-
  Package royaltylaw25: ids: what it returns; only new memory is written.
-/
import Derived.Test.YtcbckcojebanaaaDoorIds
namespace Go.Proofs.YtcbckcojebanaaaDoor
open Go.RowKit RG
theorem StO.cell {W : World} {B : Nat} {a : Option Addr} {n c i : Nat} {L : List ByteArray} {x : ByteArray} (h : StO W B (.slice a n c) L) (hx : L[i]? = some x) : ∃ g, a = some ⟨g, 0, none⟩ ∧ W.cell? ⟨g, i, none⟩ = some (.string x) := by
  rcases h.form with ⟨e, rfl⟩ | ⟨g, c', e, _⟩
  · simp at hx
  · injection e with e1 e2 e3
    subst e1
    refine ⟨g, rfl, ?_⟩
    obtain ⟨a', c2, e', _, ha⟩ := h.row
    injection e' with e1
    subst e1
    obtain ⟨b, o, hb, _, hr⟩ := ha.resolve_left (by rintro rfl; simp at hx)
    injection hb with hb
    injection hb with p1 p2
    subst p1 p2
    have := hr i x hx 0 _ rfl
    rwa [Nat.mul_one, Nat.zero_add, Nat.add_zero] at this
theorem str_ne {s t : ByteArray} (h : s ≠ t) : (s.toList == t.toList) = false := RW.bytes_ne h
theorem ids_lt {L : List ByteArray} {D s : ByteArray} {k : Nat} (hs : ¬ ∃ s, L[k]? = some s ∧ Op.bytesLess s.toList D.toList = true) (hne : ¬ L[k]? = some D) (h : L[k]? = some s) : Op.bytesLess D.data.toList s.data.toList = true := by
  cases hb : Op.bytesLess D.data.toList s.data.toList with
  | true => rfl
  | false =>
    have h1 : Op.bytesLess s.data.toList D.data.toList = false := by
      cases hb1 : Op.bytesLess s.data.toList D.data.toList with
      | false => rfl
      | true => exact absurd ⟨s, h, by rw [ByteArray.toList_eq, ByteArray.toList_eq]; exact hb1⟩ hs
    exfalso
    apply hne
    rw [h]
    congr 1
    apply ByteArray.ext
    exact Array.ext' (RW.bl_total _ _ h1 hb)
set_option maxRecDepth 100000 in
set_option maxHeartbeats 8000000 in
theorem ids_any (v : Value) (O : List Int) (hO : ∀ x ∈ O, RW.i64b x) (hOl : O.length ≤ 9223372036854775807) (w : World) (hv : RowV 1 encI w v O) :
    Calls Tryd.prog 25 #[v] w fun e w' => (∃ u L, e = .returned u ∧ StO w' w.heap.size u L ∧ RW.Asc L ∧ L.length ≤ 20) ∧ Below w.heap.size w w' := by
  obtain ⟨ao, co, rfl, _, hao⟩ := hv
  obtain ⟨no, hno⟩ : ∃ n, n = O.length := ⟨_, rfl⟩
  have hnoH := hide hno
  rw [← hno] at hOl ⊢
  obtain ⟨B, hB⟩ : ∃ B, B = w.heap.size := ⟨_, rfl⟩
  have hBs := hide (show B ≤ w.heap.size by omega)
  have hBr := hide (show Below B w w from Below.refl _ _)
  have hblk := hide (fun k (h : k < w.heap.size) => (show k < B by omega))
  rw [← hB]
  have haoH := hide hao
  have hOH := hide hO
  clear hao hO hno hB
  go_enter Tryd.func25, Tryd.ntmps25
  go_wp2
  go_loopw [3, 4] (fun u i wr => ∃ (j : Nat) (L : List ByteArray), i = .int .i64 j ∧ j ≤ 20 ∧ Hid (StO wr B u L ∧ RW.Asc L ∧ L.length ≤ j ∧ Below B w wr)) (fun _ i _ => 20 - (intOf i).toNat)
  case atStart => exact ⟨0, [], rfl, Nat.zero_le _, StO.nil _ _, RW.Asc.nil, Nat.zero_le _, hBr.out⟩
  case round =>
    clear hBr
    obtain ⟨j, L, rfl, hj20, hQ⟩ := hrel
    obtain ⟨wo, hwo⟩ : ∃ wo, wo = wr := ⟨_, rfl⟩
    subst hwo
    obtain ⟨hS0, hA0, hLj, hB0⟩ := hQ.out
    obtain ⟨au, cu, hu, _, _⟩ := hS0.row
    subst hu
    obtain ⟨nl, hnl⟩ : ∃ n, n = L.length := ⟨_, rfl⟩
    rw [← hnl] at hS0 hLj ⊢
    have hS := hide hS0
    have hA := hide hA0
    have hBw := hide hB0
    have hnlH := hide hnl
    clear hQ hS0 hA0 hB0 hnl
    obtain ⟨c, hcc⟩ : ∃ c, c = decide (j < no ∧ j < 20) := ⟨_, rfl⟩
    have hccH := hide hcc
    clear hcc
    go_upto_region 3 with fail
    go_cut [14] (fun s wx => s = .bool c ∧ wx = wo)
    case first =>
      by_cases h1 : j < no
      · by_cases h2 : j < 20
        · have h2i : (j : Int) < 20 := by omega
          go_wp2
          all_goals go_meet
          all_goals exact ⟨by rw [hccH.out, decide_eq_true (show j < no ∧ j < 20 by omega)] <;> rfl, rfl⟩
        · have h2i : ¬ (j : Int) < 20 := by omega
          go_wp2
          all_goals go_meet
          all_goals exact ⟨by rw [hccH.out, decide_eq_false (show ¬ (j < no ∧ j < 20) by omega)] <;> rfl, rfl⟩
      · go_wp2
        all_goals go_meet
        all_goals exact ⟨by rw [hccH.out, decide_eq_false (show ¬ (j < no ∧ j < 20) by omega)] <;> rfl, rfl⟩
    case rest =>
    obtain ⟨rfl, hwx⟩ := hcut
    have hwx' := hwx.symm
    subst hwx'
    cases c
    · clear hccH
      go_wp2
      go_ret
      exact ⟨⟨_, rfl, L, hnlH.out ▸ hS.out, hA.out, by rw [← hnlH.out]; omega⟩, hBw.out⟩
    · obtain ⟨hlt, hj20'⟩ : j < no ∧ j < 20 := of_decide_eq_true hccH.out.symm
      clear hccH
      obtain ⟨oj, hx⟩ : ∃ x, O[j]? = some x := ⟨_, List.getElem?_eq_getElem (by rw [← hnoH.out]; exact hlt)⟩
      have hxb := hOH.out _ (List.mem_of_getElem? hx)
      obtain ⟨bq, oq, rfl, hbq, hcq⟩ := haoH.out.resolve_left (by rintro rfl; simp at hx)
      have k1 : wo.cell? ⟨bq, oq + j, none⟩ = some (.int .i64 oj) := by
        have h1 := hcq j oj hx 0 _ rfl
        rw [Nat.mul_one, Nat.add_zero] at h1
        exact (World.cell?_of_block (a := ⟨bq, oq + j, none⟩) (hBw.out.block _ (hblk.out _ hbq))).trans h1
      have hPa := fun W => pick_any oj 30 hxb.1 hxb.2 (by decide) (by decide) W
      have ba := RW.pickI_bd oj 30 (by decide)
      obtain ⟨p, hp⟩ : ∃ p, p = RW.pickI oj 30 := ⟨_, rfl⟩
      rw [← hp] at hPa ba
      obtain ⟨hp0, hp30⟩ := ba
      have hb4 : ((UInt8.ofNat p.toNat).toNat : Int) = p := by
        rw [UInt8.toNat_ofNat', Nat.mod_eq_of_lt (by omega)]
        omega
      have hcv : (convert 60 9 (.slice (some ⟨wo.heap.size, 0, none⟩) 1 1)).run Tryd.prog (wo.alloc (.cells #[.int .u8 p] 5)) = .ok (.string ⟨#[UInt8.ofNat p.toNat]⟩) (wo.alloc (.cells #[.int .u8 p] 5)) := by
        refine run_convert_bytes_back (P := Tryd.prog) _ 60 9 5 ⟨wo.heap.size, 0, none⟩ 1 [UInt8.ofNat p.toNat] Tryd.underlying60 Tryd.underlying5 Tryd.underlying9 (fun j hj => ?_)
        obtain rfl : j = 0 := by simpa using hj
        rw [show ((⟨wo.heap.size, 0, none⟩ : Addr).add 0) = ⟨wo.heap.size, 0, none⟩ by simp [Addr.add], cell_at (heap_new_at rfl)]
        show some (Value.int .u8 p) = some (.int .u8 ((UInt8.ofNat p.toNat).toNat : Int))
        rw [hb4]
      have hR := rsum_any ⟨#[UInt8.ofNat p.toNat]⟩ (by show 1 ≤ _; omega) (wo.alloc (.cells #[.int .u8 p] 5))
      obtain ⟨D, hD⟩ : ∃ D : ByteArray, D = ⟨(RW.sha RW.k0F (⟨#[UInt8.ofNat p.toNat]⟩ : ByteArray).data.toList).toArray⟩ := ⟨_, rfl⟩
      have hDs : D.size = 32 := by rw [hD]; exact (RW.size_arr _).trans (RW.bsha_len _ _)
      rw [← hD] at hR
      obtain ⟨T, hT⟩ : ∃ T : ByteArray, T = ⟨#[UInt8.ofNat p.toNat]⟩ := ⟨_, rfl⟩
      rw [← hT] at hcv hR
      have hRH := hide hR
      have hPaH := hide hPa
      have hDsH := hide hDs
      have hwA := hide (alloc_bel hBw.out hBs.out (.cells #[.int .u8 p] 5))
      have hSA := hide (hS.out.next (alloc_bel (Below.refl wo.heap.size wo) (Nat.le_refl _) (.cells #[.int .u8 p] 5)))
      clear hR hPa hDs hD hT hb4 hx hxb hbq hcq hp
      go_upto_region 7 with (first
        | (go_at_call 22; refine (hPaH.out _).mono ?_; rintro e w' ⟨rfl, rfl⟩)
        | (go_at_call 53; refine hRH.out.mono ?_; rintro e w5 ⟨rfl, hB5⟩; have hS5 := hide (hSA.out.next hB5); have hB5w := hide (hwA.out.trans (hB5.mono (Nat.le_trans hBs.out hwA.out.size))); clear hB5))
      go_loop [6] (fun kk => ∃ k : Nat, kk = .int .i64 k ∧ k ≤ nl ∧ Hid (∀ i s, i < k → L[i]? = some s → Op.bytesLess s.data.toList D.data.toList = true)) (fun kk => nl - (intOf kk).toNat)
      case atStart => exact ⟨0, rfl, Nat.zero_le _, hide (fun i s h => absurd h (Nat.not_lt_zero _))⟩
      case round =>
        obtain ⟨k, rfl, hkl, hlt2⟩ := hrel
        obtain ⟨c2, hc2⟩ : ∃ c, c = RW.dec (∃ s, L[k]? = some s ∧ Op.bytesLess s.toList D.toList = true) := ⟨_, rfl⟩
        have hc2H := hide hc2
        clear hc2
        go_upto_region 7 with fail
        go_cut [37] (fun s wx => s = .bool c2 ∧ wx = w5)
        case first =>
          by_cases hk : k < nl
          · obtain ⟨s, hs⟩ : ∃ s, L[k]? = some s := ⟨_, List.getElem?_eq_getElem (by rw [← hnlH.out]; exact hk)⟩
            obtain ⟨g, rfl, hcell⟩ := hS5.out.cell hs
            cases hb : Op.bytesLess s.toList D.toList with
            | true =>
              have hv := hide (show c2 = true by rw [hc2H.out]; exact RW.dec_true ⟨s, hs, hb⟩)
              clear hs
              go_wp2
              all_goals go_meet
              all_goals exact ⟨by rw [hv.out] <;> rfl, rfl⟩
            | false =>
              have hv := hide (show c2 = false by rw [hc2H.out]; exact RW.dec_false (fun ⟨t, ht, h⟩ => by rw [hs] at ht; cases ht; rw [hb] at h; cases h))
              clear hs
              go_wp2
              all_goals go_meet
              all_goals exact ⟨by rw [hv.out] <;> rfl, rfl⟩
          · have hv := hide (show c2 = false by rw [hc2H.out]; exact RW.dec_false (fun ⟨t, ht, h⟩ => by have := (List.getElem?_eq_some_iff.1 ht).1; have := hnlH.out; omega))
            go_wp2
            all_goals go_meet
            all_goals exact ⟨by rw [hv.out] <;> rfl, rfl⟩
        case rest =>
        obtain ⟨rfl, hwx⟩ := hcut
        have hwx' := hwx.symm
        subst hwx'
        cases c2
        · have hnot := hide (show ¬ ∃ s, L[k]? = some s ∧ Op.bytesLess s.toList D.toList = true from fun h => by have := RW.dec_true h; rw [← hc2H.out] at this; cases this)
          clear hc2H
          obtain ⟨c3, hc3⟩ : ∃ c, c = !(RW.dec (L[k]? = some D)) := ⟨_, rfl⟩
          have hc3H := hide hc3
          clear hc3
          go_upto_region 9 with fail
          go_cut [51] (fun s wx => s = .bool c3 ∧ wx = w5)
          case first =>
            by_cases hk : k < nl
            · have hki : ((k : Int) == (nl : Int)) = false := by rw [beq_eq_false_iff_ne]; omega
              obtain ⟨s, hs⟩ : ∃ s, L[k]? = some s := ⟨_, List.getElem?_eq_getElem (by rw [← hnlH.out]; exact hk)⟩
              obtain ⟨g, rfl, hcell⟩ := hS5.out.cell hs
              by_cases hsd : s = D
              · subst hsd
                have hv := hide (show c3 = false by rw [hc3H.out, RW.dec_true hs]; rfl)
                clear hs
                go_wp2
                all_goals go_meet
                all_goals exact ⟨by rw [hv.out] <;> rfl, rfl⟩
              · have hv := hide (show c3 = true by rw [hc3H.out, RW.dec_false (fun h => hsd (by rw [hs] at h; exact Option.some.inj h))]; rfl)
                have hne := str_ne hsd
                clear hs hsd
                go_wp2
                all_goals go_meet
                all_goals exact ⟨by rw [hv.out] <;> rfl, rfl⟩
            · have hki : ((k : Int) == (nl : Int)) = true := by rw [beq_iff_eq]; omega
              have hv := hide (show c3 = true by rw [hc3H.out, RW.dec_false (fun h => by have := (List.getElem?_eq_some_iff.1 h).1; have := hnlH.out; omega)]; rfl)
              go_wp2
              all_goals go_meet
              all_goals exact ⟨by rw [hv.out] <;> rfl, rfl⟩
          case rest =>
          obtain ⟨rfl, hwx⟩ := hcut
          have hwx' := hwx.symm
          subst hwx'
          cases c3
          · clear hc3H
            go_wp2
            go_roundw
            case rel => exact ⟨j + 1, L, by go_num, by omega, hnlH.out ▸ hS5.out, hA.out, by rw [← hnlH.out]; omega, hB5w.out⟩
            case measure => simp [intOf]; omega
          · have hnD := hide (show ¬ L[k]? = some D from fun h => by have h2 := hc3H.out; rw [RW.dec_true h] at h2; cases h2)
            clear hc3H
            have hkL : k ≤ L.length := by rw [← hnlH.out]; exact hkl
            have hA2 := hide (hA.out.insert D hDsH.out k hlt2.out (fun s hs => ids_lt hnot.out hnD.out hs))
            obtain ⟨vlo, a3, h1, h2, h3⟩ := str_parts hS5.out hkL
            have hD0 : Below w5.heap.size w5 w5.drew := (Below.refl _ _).drew
            have hD1 := alloc_bel (Below.refl w5.drew.heap.size w5.drew) (Nat.le_refl _) (.cells #[.string D] 9)
            have hlit : StO (w5.drew.alloc (.cells #[.string D] 9)) w5.drew.heap.size (.slice (some ⟨w5.drew.heap.size, 0, none⟩) 1 1) [D] := ⟨rfl, .inr ⟨_, 1, #[.string D], rfl, Nat.le_refl _, alloc_at1 _ _, Nat.le_refl _, by unfold maxLen; omega, rfl, rfl⟩⟩
            have hrow1 := ((hS5.out.next hD0).next hD1).row
            have hlL : L.length ≤ 20 := by rw [← hnlH.out]; omega
            obtain ⟨v2, W2, r1, g1, g2⟩ := hlit.app (h3 _ hrow1).1 (by simp) (by rw [List.length_drop]; omega) hD1.size
            have hrow2 := ((hS5.out.next hD0).next (hD1.trans g2)).row
            obtain ⟨v3, W3, r2, g3, g4⟩ := run_app_clip (P := Tryd.prog) (enc := encS) (k := 1) 22 Tryd.underlying22 info_str (by rfl) (by decide) (fun _ => rfl) str_one (h3 _ hrow2).2 (m := [D] ++ L.drop k) (by rw [List.length_take, List.length_append]; simp; omega) g1.row (by rw [List.length_take, List.length_append, List.length_drop]; unfold maxLen; simp; omega) (by rw [List.length_take, List.length_append, List.length_drop]; simp; omega)
            have hsz5 : B ≤ w5.heap.size := Nat.le_trans hBs.out hB5w.out.size
            have hO3 : StO W3 B v3 (L.take k ++ ([D] ++ L.drop k)) := own_base g3 (Nat.le_trans hsz5 (hD0.trans (hD1.trans g2)).size)
            have hO3H := hide hO3
            have hln := hide (show (L.take k ++ ([D] ++ L.drop k)).length ≤ j + 1 by rw [List.length_append, List.length_append, List.length_take, List.length_drop, ← hnlH.out]; simp; omega)
            have hB3 := hide (hB5w.out.trans ((hD0.mono hsz5).trans (((hD1.trans g2).mono hsz5).trans (g4.mono (Nat.le_trans hsz5 (hD0.trans (hD1.trans g2)).size)))))
            have h1H := hide h1
            have h2H := hide h2
            have r1H := hide r1
            have r2H := hide r2
            clear h1 h2 r1 r2 hO3 hsz5 hrow2 hrow1 hlL g1 g2 g3 g4 h3 hlit hD1 hD0 hkL hnD hnot hlt2
            go_upto_region 10 with fail
            refine wp_region_staged (st5 w5.drew (w5.drew.alloc (.cells #[.string D] 9)) W2 W3 W3) [5, 9, 10] (by kernel_rfl) (by kernel_rfl) (by rfl) rfl ?_
            refine st_val (.slice au nl cu) (by rfl) (by rfl) (fun w => op_mv rfl rfl) ?_
            simp only [Act.put, List.setIfInBounds_toArray, List.set_cons_zero, List.set_cons_succ]
            refine st_val (.int .i64 k) (by rfl) (by rfl) (fun w => op_mv rfl rfl) ?_
            simp only [Act.put, List.setIfInBounds_toArray, List.set_cons_zero, List.set_cons_succ]
            refine st_val (.int .i64 k) (by rfl) (by rfl) (fun w => op_mv rfl rfl) ?_
            simp only [Act.put, List.setIfInBounds_toArray, List.set_cons_zero, List.set_cons_succ]
            refine st_val (.slice a3 (L.take k).length k) (by rfl) (by rfl) (fun w => h2H.out _ _ _ _ _ w rfl rfl rfl rfl) ?_
            simp only [Act.put, List.setIfInBounds_toArray, List.set_cons_zero, List.set_cons_succ]
            refine st_val (.string D) (by rfl) (by rfl) (fun w => op_mv rfl rfl) ?_
            simp only [Act.put, List.setIfInBounds_toArray, List.set_cons_zero, List.set_cons_succ]
            refine st_step 0 (.slice (some ⟨w5.drew.heap.size, 0, none⟩) 1 1) (by rfl) (by rfl) (by decide +kernel) (fun w' hS => by have hS : w' = _ := hS; subst hS; rw [op_build_s rfl rfl]; exact ⟨rfl, rfl⟩) ?_
            simp only [Act.put, List.setIfInBounds_toArray, List.set_cons_zero, List.set_cons_succ]
            refine st_val (.slice au nl cu) (by rfl) (by rfl) (fun w => op_mv rfl rfl) ?_
            simp only [Act.put, List.setIfInBounds_toArray, List.set_cons_zero, List.set_cons_succ]
            refine st_val (.int .i64 k) (by rfl) (by rfl) (fun w => op_mv rfl rfl) ?_
            simp only [Act.put, List.setIfInBounds_toArray, List.set_cons_zero, List.set_cons_succ]
            refine st_val (vlo) (by rfl) (by rfl) (fun w => h1H.out _ _ _ _ w rfl rfl rfl) ?_
            simp only [Act.put, List.setIfInBounds_toArray, List.set_cons_zero, List.set_cons_succ]
            refine st_step 1 (v2) (by rfl) (by rfl) (by decide +kernel) (fun w' hS => by have hS : w' = _ := hS; subst hS; rw [op_app rfl rfl rfl r1H.out]; exact ⟨rfl, rfl⟩) ?_
            simp only [Act.put, List.setIfInBounds_toArray, List.set_cons_zero, List.set_cons_succ]
            refine st_step 2 (v3) (by rfl) (by rfl) (by decide +kernel) (fun w' hS => by have hS : w' = _ := hS; subst hS; rw [op_app rfl rfl rfl r2H.out]; exact ⟨rfl, rfl⟩) ?_
            simp only [Act.put, List.setIfInBounds_toArray, List.set_cons_zero, List.set_cons_succ]
            refine st_val (v3) (by rfl) (by rfl) (fun w => op_asg rfl rfl) ?_
            simp only [Act.put, List.setIfInBounds_toArray, List.set_cons_zero, List.set_cons_succ]
            refine st_nil ?_
            intro W4 hW4
            have hW4 : W4 = W3 := hW4
            subst hW4
            clear h1H h2H r1H r2H
            go_wp2
            go_roundw
            case rel => exact ⟨j + 1, _, by go_num, by omega, hO3H.out, hA2.out, hln.out, hB3.out⟩
            case measure => simp [intOf]; omega
        · obtain ⟨s, hs, hb⟩ := (RW.dec_iff _).1 hc2H.out.symm
          have hkn : k < nl := by have := (List.getElem?_eq_some_iff.1 hs).1; have := hnlH.out; omega
          have hl2 := hide (show ∀ i s, i < k + 1 → L[i]? = some s → Op.bytesLess s.data.toList D.data.toList = true from fun i t hi ht => by
            rcases Nat.lt_succ_iff_lt_or_eq.1 hi with h | rfl
            · exact hlt2.out i t h ht
            · rw [hs] at ht; cases ht; rw [ByteArray.toList_eq, ByteArray.toList_eq] at hb; exact hb)
          clear hs hb hc2H hlt2
          go_wp2
          go_round
          case rel => exact ⟨k + 1, by go_num, by omega, hl2⟩
          case measure => simp [intOf]; omega
end Go.Proofs.YtcbckcojebanaaaDoor

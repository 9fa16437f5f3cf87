/-
  Package royaltyref19: All: what it returns; only new memory is written.
-/
import Derived.Test.YtillplhadimgmaaSt14
import Derived.Test.YtillplhadimgmaaSt15
namespace Go.Proofs.Ytillplhadimgmaa
open Go.RowKit RG
theorem al_st (W : World) : (Instr.alloc 39 true (.tuple #[])).run Try.prog W = .ok (.pointer (some ⟨W.heap.size, 0, none⟩)) (W.alloc (.cells #[.int .i64 0, .int .i64 0, .slice none 0 0] 39)) := by
  go_simp
theorem ix_int {b o n c : Nat} {j : Nat} (hj : j < n) (W : World) : (Instr.indexAt 36 (.slice (some ⟨b, o, none⟩) n c) (.int .i64 j)).run Try.prog W = .ok (.pointer (some ⟨b, o + j, none⟩)) W := by
  go_simp
theorem stm_st {W : World} {g : Nat} (hg : W.heap[g]? = some (.cells #[.int .i64 0, .int .i64 0, .slice none 0 0] 39 (0, 0))) (h c : Int) (v : Value) (hv : v.oneCell' = true) :
    ∃ W', (stRow 39 (.pointer (some ⟨g, 0, none⟩)) (.agg #[.int .i64 h, .int .i64 c, v])).run Try.prog W = .ok () W' ∧ W'.heap[g]? = some (.cells #[.int .i64 h, .int .i64 c, v] 39 (0, 0)) ∧ (∀ B w, Below B w W → B ≤ w.heap.size → B ≤ g → Below B w W') ∧ ∀ k, k ≠ g → W'.heap[k]? = W.heap[k]? := by
  have ht : W.there g 0 (#[Value.int .i64 h, .int .i64 c, v] : Array Value).size := fun j hj => by
    refine ⟨?_, by simp [World.frozen?, hg]⟩
    have h3 : j < 3 := hj
    rw [cellAt hg, Nat.zero_add]
    rcases j with _ | _ | _ | j
    · rfl
    · rfl
    · rfl
    · omega
  have hone : (#[Value.int .i64 h, .int .i64 c, v] : Array Value).all (·.oneCell') = true := by simp; exact ⟨rfl, rfl, hv⟩
  refine ⟨_, stRow_mid ht (st_size (h, c, v)) hone, (setCells_heap _ _ _ _ _ _ _ hg).trans rfl, fun B w hB h0 hg' => hB.grown (setCells_grown _ _ _ _) (Nat.le_trans h0 hB.size) fun k hk => by cases hk; exact hg', fun k hk => ?_⟩
  show ((((W.setCell _ _).setCell _ _).setCell _ _)).heap[k]? = _
  rw [Below.heap_setCell _ _ _ _ hk, Below.heap_setCell _ _ _ _ hk, Below.heap_setCell _ _ _ _ hk]
set_option maxRecDepth 10000 in
set_option maxHeartbeats 4000000 in
theorem rall_any (zb za : Int) (vb va : Value) (lb la : List RW.Rw) (hlb : lb.length ≤ 50) (hla : la.length ≤ 50) (hnb : RW.NearR lb) (hna : RW.NearR la) (w : World) (hvb : RwsV w vb lb) (hva : RwsV w va la) :
    Calls Try.prog 19 #[.agg (bks zb vb), .agg (bks za va)] w fun e w' => ∃ v vs, e = .returned v ∧ StsO w' w.heap.size v vs (RW.stAll lb la za) ∧ Below w.heap.size w w' := by
  obtain ⟨B, hB⟩ : ∃ B, B = w.heap.size := ⟨_, rfl⟩
  have hBH := hide hB
  have hvbH := hide (fun W (hW : Below B w W) => hvb.next (hB ▸ hW))
  have hvaH := hide (fun W (hW : Below B w W) => hva.next (hB ▸ hW))
  have hS0 := hide (BkW.start w zb za vb va)
  have hlbH := hide hlb
  have hlaH := hide hla
  have hnbH := hide hnb
  have hnaH := hide hna
  obtain ⟨ab, cb, hvbe, hcbl, _⟩ := hvb
  obtain ⟨aa, ca, hvae, hcal, _⟩ := hva
  obtain ⟨nb, hnbe⟩ : ∃ n, n = lb.length := ⟨_, rfl⟩
  obtain ⟨na, hnae⟩ : ∃ n, n = la.length := ⟨_, rfl⟩
  rw [← hnbe] at hvbe
  rw [← hnae] at hvae
  subst hvbe hvae
  rw [← hB] at hS0 ⊢
  clear hlb hla hnb hna hcbl hcal hnbe hnae
  have hS1 := hide hS0.out
  unfold bks at hS1 ⊢
  go_enter Try.func19, Try.ntmps19
  go_upto_region 2 with fail
  rw [← hB]
  refine gen_w (fun W => BkW W B w zb za (.slice ab nb cb) (.slice aa na ca)) hS0.out ?_
  clear hS0 hS1 hB
  intro w1 hO1
  obtain ⟨B1, hB1⟩ : ∃ b, b = w1.heap.size := ⟨_, rfl⟩
  have hB1H := hide hB1
  have hr0 := hide (fun W (hW : Below B1 w1 W) => hO1.next (hB1 ▸ hW) hO1.lt)
  have hlt0 := hide (show B + 1 < B1 by rw [hB1]; exact hO1.lt)
  have hs0 := hide (fun W (hW : Below B1 w1 W) => (show B1 ≤ W.heap.size by rw [hB1]; exact (hB1 ▸ hW).size))
  clear hO1
  refine wp_region_k (fun _ W => Below B1 w1 W) (fun _ => True) [0, 3, 6] (.op 1 (.op 2 (.op 4 (.op 5 (.op 0 (.op 3 (.op 6 (.op 7 .nil)))))))) (by kernel_rfl) (by kernel_rfl) (by rfl) (by kernel_rfl) (by rw [hB1]; exact (Below.refl w1.heap.size w1).drew) trivial ?_
  refine k_val (.pointer (some ⟨B, 2, none⟩)) (by apply opN; repeat' (first | apply OpAt.z | apply OpAt.s)) (by rfl) (by rfl) (fun _ W hS => op_fa rfl rfl (fa_bk W)) ?_
  simp only [Act.put, List.setIfInBounds_toArray, List.set_cons_zero, List.set_cons_succ]
  refine k_val (.slice ab nb cb) (by apply opN; repeat' (first | apply OpAt.z | apply OpAt.s)) (by rfl) (by rfl) (fun _ W hS => op_ld rfl rfl (sl_ld (cellAt (hr0.out W hS).b0 2))) ?_
  simp only [Act.put, List.setIfInBounds_toArray, List.set_cons_zero, List.set_cons_succ]
  refine k_val (.pointer (some ⟨B + 1, 2, none⟩)) (by apply opN; repeat' (first | apply OpAt.z | apply OpAt.s)) (by rfl) (by rfl) (fun _ W hS => op_fa rfl rfl (fa_bk W)) ?_
  simp only [Act.put, List.setIfInBounds_toArray, List.set_cons_zero, List.set_cons_succ]
  refine k_val (.slice aa na ca) (by apply opN; repeat' (first | apply OpAt.z | apply OpAt.s)) (by rfl) (by rfl) (fun _ W hS => op_ld rfl rfl (sl_ld (cellAt (hr0.out W hS).b1 2))) ?_
  simp only [Act.put, List.setIfInBounds_toArray, List.set_cons_zero, List.set_cons_succ]
  refine k_step (fun K' u => ∃ g0, u = .slice (some ⟨g0, 0, none⟩) 0 0 ∧ K' = fun W => RwsO W B1 (.slice (some ⟨g0, 0, none⟩) 0 0) []) (by apply opN; repeat' (first | apply OpAt.z | apply OpAt.s)) (by rfl) (by rfl) (by rfl) (fun W hC hK => ?_) ?_
  · exact xup_val (op_mtr rfl) ⟨alloc_bel hC (by rw [hB1]; exact Nat.le_refl _) _, _, RwsO.empty W (hs0.out W hC), _, rfl, rfl⟩
  rintro _ _ ⟨g0, rfl, rfl⟩
  simp only [Act.put, List.setIfInBounds_toArray, List.set_cons_zero, List.set_cons_succ]
  refine k_step (fun K' u => ∃ v3, u = v3 ∧ K' = fun W => RwsO W B1 v3 lb) (by apply opN; repeat' (first | apply OpAt.z | apply OpAt.s)) (by rfl) (by rfl) (by rfl) (fun W hC hK => ?_) ?_
  · obtain ⟨v3, W3, hrun, ho3, hb3⟩ := hK.app (m := lb) (by have := hlbH.out; simp; omega) (hs0.out W hC) (hvbH.out W (hr0.out W hC).bel)
    rw [List.nil_append] at ho3
    exact xup_val (op_app rfl rfl rfl hrun) ⟨hC.trans hb3, _, ho3, _, rfl, rfl⟩
  rintro _ v3 ⟨_, rfl, rfl⟩
  simp only [Act.put, List.setIfInBounds_toArray, List.set_cons_zero, List.set_cons_succ]
  refine k_step (fun K' u => ∃ v6, u = v6 ∧ K' = fun W => RwsO W B1 v6 (lb ++ la)) (by apply opN; repeat' (first | apply OpAt.z | apply OpAt.s)) (by rfl) (by rfl) (by rfl) (fun W hC hK => ?_) ?_
  · obtain ⟨v6, W6, hrun, ho6, hb6⟩ := hK.app (m := la) (by have := hlbH.out; have := hlaH.out; omega) (hs0.out W hC) (hvaH.out W (hr0.out W hC).bel)
    exact xup_val (op_app rfl rfl rfl hrun) ⟨hC.trans hb6, _, ho6, _, rfl, rfl⟩
  rintro _ v6 ⟨_, rfl, rfl⟩
  simp only [Act.put, List.setIfInBounds_toArray, List.set_cons_zero, List.set_cons_succ]
  refine k_val (v6) (by apply opN; repeat' (first | apply OpAt.z | apply OpAt.s)) (by rfl) (by rfl) (fun _ W hS => op_asg rfl rfl) ?_
  simp only [Act.put, List.setIfInBounds_toArray, List.set_cons_zero, List.set_cons_succ]
  refine k_nil ?_
  intro w2 hB2 hK2
  have hR2 := hide hK2.row
  have hB2H := hide hB2
  clear hB2 hK2
  have hO2 := hide (hr0.out w2 hB2H.out)
  obtain ⟨ls, hls⟩ : ∃ l, l = lb ++ la := ⟨_, rfl⟩
  have hlsH := hide hls
  have hlsl := hide (show ls.length ≤ 100 by rw [hls, List.length_append]; have := hlbH.out; have := hlaH.out; omega)
  rw [← hls] at hR2
  obtain ⟨ar, cr, hue, _, har⟩ := hR2.out
  obtain ⟨m0, hm0⟩ : ∃ m, m = ls.length := ⟨_, rfl⟩
  rw [← hm0] at hue
  subst hue
  have hm0H := hide hm0
  have harH := hide har
  have hm0100 : m0 ≤ 100 := by rw [hm0]; exact hlsl.out
  obtain ⟨B2, hB2⟩ : ∃ b, b = w2.heap.size := ⟨_, rfl⟩
  have hB2e := hide hB2
  have hsz2 := hide (fun W (hW : Below B2 w2 W) => (show B2 ≤ W.heap.size by rw [hB2]; exact (hB2 ▸ hW).size))
  clear hm0 har hls hB1H hB1 hs0 hR2 hB2
  go_wp2
  go_loopw [5, 7] (fun u i wr => ∃ (j : Nat), i = .int .i64 j ∧ j ≤ m0 ∧ Hid (RowV 1 encI wr u (RW.hols (ls.take j)) ∧ Below B2 w2 wr)) (fun _ i _ => m0 - (intOf i).toNat)
  case atStart => exact ⟨0, rfl, Nat.zero_le _, RowV.nil _, by rw [hB2e.out]; exact Below.refl _ _⟩
  case round =>
    obtain ⟨j, rfl, hj, hQ⟩ := hrel
    obtain ⟨wo, hwo⟩ : ∃ wo, wo = wr := ⟨_, rfl⟩
    subst hwo
    have hI := hide hQ.out.1
    have hBo := hide hQ.out.2
    clear hQ
    by_cases hjm : j < m0
    · obtain ⟨r, hr⟩ : ∃ r, ls[j]? = some r := ⟨_, List.getElem?_eq_getElem (by rw [← hm0H.out]; exact hjm)⟩
      obtain ⟨b, o, rfl, hbb, hc⟩ := harH.out.resolve_left (by rintro rfl; simp at hr)
      have e0 : wo.cell? ⟨b, o + j * 12, none⟩ = some (.int .i64 (r 0)) := (World.cell?_of_block (a := ⟨b, o + j * 12, none⟩) (hBo.out.block _ (by rw [hB2e.out]; exact hbb))).trans (hc j r hr 0 _ rfl)
      have htk := hide (show RW.hols (ls.take (j + 1)) = RW.ins (RW.hols (ls.take j)) (r 0) by rw [List.take_add_one, hr, Option.toList_some, RW.hols_snoc])
      have hlen := hide (show (RW.hols (ls.take j)).length ≤ 1000 by
        have h1 := RW.hols_len (ls.take j)
        rw [List.length_take] at h1
        have := hlsl.out
        omega)
      obtain ⟨x0, h0⟩ : ∃ x, x = r 0 := ⟨_, rfl⟩
      rw [← h0] at e0 htk
      have hC := hide (insert_any _ _ x0 hlen.out (RW.hols_up (ls.take j)) wo hI.out)
      clear hr hbb hc h0
      go_wp2_with (go_at_call 28; refine hC.out.mono ?_; rintro e w5 ⟨u5, rfl, hI5, hB5⟩; have hI5H := hide hI5; have hB5H := hide hB5; clear hI5 hB5)
      go_roundw
      case rel => exact ⟨j + 1, by go_num, by omega, by rw [htk.out]; exact hI5H.out.row, hBo.out.trans (hB5H.out.mono (hsz2.out _ hBo.out))⟩
      case measure => simp [intOf]; omega
    · obtain rfl : m0 = j := by omega
      obtain ⟨hs, hhs⟩ : ∃ hs, hs = RW.hols (lb ++ la) := ⟨_, rfl⟩
      have hhsl := hide (show hs.length ≤ 100 by rw [hhs]; have h1 := RW.hols_len (lb ++ la); rw [List.length_append] at h1; have := hlbH.out; have := hlaH.out; omega)
      have hhsH := hide hhs
      have hI2 := hide (show RowV 1 encI wo _ hs by
        have h1 := hI.out
        rwa [List.take_of_length_le (by rw [← hm0H.out]; exact Nat.le_refl _), hlsH.out, ← hhs] at h1)
      clear hI hhs
      obtain ⟨av, cv, hue, _, hav⟩ := hI2.out
      obtain ⟨m, hm⟩ : ∃ k, k = hs.length := ⟨_, rfl⟩
      rw [← hm] at hue
      subst hue
      have hmH := hide hm
      have havH := hide hav
      have hm100 : m ≤ 100 := by rw [hm]; exact hhsl.out
      have hO3 := hide (hO2.out.next (hBo.out.mono (Nat.le_of_eq hB2e.out.symm)) hO2.out.lt)
      clear hm hav hI2 hBo
      obtain ⟨w3, hw3⟩ : ∃ x, x = wo := ⟨_, rfl⟩
      subst hw3
      obtain ⟨w3s, hw3s⟩ : ∃ n, n = w3.heap.size := ⟨_, rfl⟩
      have hw3sH := hide hw3s
      have hpin := hide (fun W (hW : Below w3s w3 W) j p (hp : hs[j]? = some p) => (show ∃ b o, av = some ⟨b, o, none⟩ ∧ W.cell? ⟨b, o + j, none⟩ = some (.int .i64 p) from by
        obtain ⟨b, o, e, hb, hc⟩ := havH.out.resolve_left (by rintro rfl; simp at hp)
        exact ⟨b, o, e, (World.cell?_of_block (a := ⟨b, o + j, none⟩) (hW.block _ (by rw [hw3s]; exact hb))).trans (ints_cell hc hp)⟩))
      have hlt := hide (show B + 1 < w3s by rw [hw3s]; exact hO3.out.lt)
      have hO4 := hide (fun W (hW : Below w3s w3 W) => hO3.out.next hW hlt.out)
      have hsz := hide (fun W (hW : Below w3s w3 W) => (show w3s ≤ W.heap.size by rw [hw3s]; exact (hw3s ▸ hW).size))
      clear hw3s hO3 havH
      go_wp2
      go_loopw [8, 9] (fun o i wr => ∃ (j : Nat) (vs : List SV), i = .int .i64 j ∧ j ≤ m ∧ Hid (StsO wr w3s o vs (RW.stsP lb la za (hs.take j)) ∧ Below w3s w3 wr)) (fun _ i _ => m - (intOf i).toNat)
      case atStart => exact ⟨0, [], rfl, Nat.zero_le _, StsO.nil _ _, by rw [hw3sH.out]; exact Below.refl _ _⟩
      case round =>
        obtain ⟨j, vs, rfl, hj, hQ⟩ := hrel
        obtain ⟨wo, hwo⟩ : ∃ wo, wo = wr := ⟨_, rfl⟩
        subst hwo
        have hS := hide hQ.out.1
        have hBo := hide hQ.out.2
        clear hQ
        by_cases hjm : j < m
        · obtain ⟨h, hp⟩ : ∃ p, hs[j]? = some p := ⟨_, List.getElem?_eq_getElem (by rw [← hmH.out]; exact hjm)⟩
          obtain ⟨b, o, rfl, hcell⟩ := hpin.out wo hBo.out j h hp
          have htk := hide (show hs.take (j + 1) = hs.take j ++ [h] by rw [List.take_add_one, hp]; rfl)
          have hlen := hide (show vs.length ≤ 100000 by
            rw [hS.out.len]
            have h1 := RW.stsP_len lb la za (hs.take j)
            rw [List.length_take] at h1
            have := hhsl.out
            omega)
          obtain ⟨L, hL⟩ : ∃ L, L = RW.lns lb la h := ⟨_, rfl⟩
          have hsn := hide (show RW.stsP lb la za (hs.take (j + 1)) = RW.stsP lb la za (hs.take j) ++ (if 0 < L.length then [(h, za, L)] else []) by rw [htk.out, RW.stsP_snoc, hL])
          have hOo := hide (hO4.out wo hBo.out)
          go_upto_region 11 with fail
          have hc0 := hide (fun W (hW : Below wo.heap.size wo W) => (show BkW W B w zb za (.slice ab nb cb) (.slice aa na ca) from hOo.out.next hW hOo.out.lt))
          have hC := hide (fun W (hW : Below wo.heap.size wo W) => rof_any zb za h (.slice ab nb cb) (.slice aa na ca) lb la hlbH.out hlaH.out hnbH.out hnaH.out W (hvbH.out W (hc0.out W hW).bel) (hvaH.out W (hc0.out W hW).bel))
          rw [← hL] at hC
          clear hL
          have hcl := hide (fun W (hW : Below wo.heap.size wo W) => (show W.cell? ⟨b, o + j, none⟩ = some (.int .i64 h) from by
            obtain ⟨b', o', e, hc⟩ := hpin.out W (hBo.out.trans (hW.mono (hsz.out wo hBo.out))) j h hp
            cases e
            exact hc))
          have hjmH := hide hjm
          clear hp
          go_cut [10] (fun s wx => ∃ g v4, s = .pointer (some ⟨g, 0, none⟩) ∧ wx.heap[g]? = some (.cells #[.int .i64 h, .int .i64 za, v4] 39 (0, 0)) ∧ LnsO wx wo.heap.size v4 L ∧ Below wo.heap.size wo wx)
          case first =>
            refine wp_region_k (fun _ W => Below wo.heap.size wo W) (fun _ => True) [6, 7, 8] (.op 0 (.op 1 (.op 2 (.op 3 (.op 4 (.op 5 (.fork 6 (.op 7 (.op 8 .nil)) 7 (.op 6 (.op 8 .nil))))))))) (by kernel_rfl) (by kernel_rfl) (by rfl) (by kernel_rfl) (Below.refl wo.heap.size wo).drew trivial ?_
            refine k_val (.agg (bks zb (.slice ab nb cb))) (by apply opN; repeat' (first | apply OpAt.z | apply OpAt.s)) (by rfl) (by rfl) (fun _ W hS => op_ld rfl rfl (bk_ld (hc0.out W hS).b0)) ?_
            simp only [Act.put, List.setIfInBounds_toArray, List.set_cons_zero, List.set_cons_succ]
            refine k_val (.agg (bks za (.slice aa na ca))) (by apply opN; repeat' (first | apply OpAt.z | apply OpAt.s)) (by rfl) (by rfl) (fun _ W hS => op_ld rfl rfl (bk_ld (hc0.out W hS).b1)) ?_
            simp only [Act.put, List.setIfInBounds_toArray, List.set_cons_zero, List.set_cons_succ]
            refine k_val (.slice (some ⟨b, o, none⟩) m cv) (by apply opN; repeat' (first | apply OpAt.z | apply OpAt.s)) (by rfl) (by rfl) (fun _ W hS => op_mv rfl rfl) ?_
            simp only [Act.put, List.setIfInBounds_toArray, List.set_cons_zero, List.set_cons_succ]
            refine k_val (.int .i64 (j : Int)) (by apply opN; repeat' (first | apply OpAt.z | apply OpAt.s)) (by rfl) (by rfl) (fun _ W hS => op_mv rfl rfl) ?_
            simp only [Act.put, List.setIfInBounds_toArray, List.set_cons_zero, List.set_cons_succ]
            refine k_val (.pointer (some ⟨b, o + j, none⟩)) (by apply opN; repeat' (first | apply OpAt.z | apply OpAt.s)) (by rfl) (by rfl) (fun _ W hS => op_ix rfl rfl rfl (ix_int hjmH.out W)) ?_
            simp only [Act.put, List.setIfInBounds_toArray, List.set_cons_zero, List.set_cons_succ]
            refine k_val (.int .i64 h) (by apply opN; repeat' (first | apply OpAt.z | apply OpAt.s)) (by rfl) (by rfl) (fun _ W hS => op_ld rfl rfl (int_ld (hcl.out W hS))) ?_
            simp only [Act.put, List.setIfInBounds_toArray, List.set_cons_zero, List.set_cons_succ]
            refine h_fork ?_ ?_
            · refine k_one (fun K' u => ∃ v4, u = .agg #[.int .i64 h, .int .i64 za, v4] ∧ K' = fun W => LnsO W wo.heap.size v4 L) (by apply opN; repeat' (first | apply OpAt.z | apply OpAt.s)) (by rfl) (by rfl) (by rfl) (fun W hCW hK => ?_) ?_
              · refine op_x3 rfl rfl rfl rfl rfl cf_rof ?_
                refine (hC.out W hCW).mono ?_
                rintro e W' ⟨v4, rfl, h4, h5⟩
                exact ⟨_, rfl, hCW.trans (h5.mono hCW.size), _, own_base h4 hCW.size, v4, rfl, rfl⟩
              rintro _ _ ⟨v4, rfl, rfl⟩
              simp only [Act.put, List.setIfInBounds_toArray, List.set_cons_zero, List.set_cons_succ]
              refine k_step (fun K' u => ∃ g, u = .pointer (some ⟨g, 0, none⟩) ∧ K' = fun W => wo.heap.size ≤ g ∧ W.heap[g]? = some (.cells #[.int .i64 0, .int .i64 0, .slice none 0 0] 39 (0, 0)) ∧ LnsO W wo.heap.size v4 L) (by apply opN; repeat' (first | apply OpAt.z | apply OpAt.s)) (by rfl) (by rfl) (by rfl) (fun W hCW hK => ?_) ?_
              · exact xup_val (op_al rfl (al_st W)) ⟨alloc_bel hCW (Nat.le_refl _) _, _, ⟨hCW.size, alloc_at1 W _, hK.next (alloc_bel (Below.refl _ _) (Nat.le_refl _) _)⟩, W.heap.size, rfl, rfl⟩
              rintro _ _ ⟨g, rfl, rfl⟩
              simp only [Act.put, List.setIfInBounds_toArray, List.set_cons_zero, List.set_cons_succ]
              refine k_step (fun K' u => K' = fun W => W.heap[g]? = some (.cells #[.int .i64 h, .int .i64 za, v4] 39 (0, 0)) ∧ LnsO W wo.heap.size v4 L) (by apply opN; repeat' (first | apply OpAt.z | apply OpAt.s)) (by rfl) (by rfl) (by rfl) (fun W hCW hK => ?_) ?_
              · obtain ⟨a4, n4, e4⟩ := lnl_block hK.2.2
                obtain ⟨W', r1, r2, r3, r4⟩ := stm_st hK.2.1 h za v4 (by rw [e4]; rfl)
                exact xup_skip (op_st rfl rfl rfl r1) ⟨r3 _ _ hCW (Nat.le_refl _) hK.1, _, ⟨r2, own_keep hK.2.2 fun k hk => r4 k (fun e => by
                    obtain ⟨c1, k1⟩ := (own_block hK.2.2 hk).2.2
                    exact blocks_ne k1 hK.2.1 (by decide) e)⟩, rfl⟩
              rintro _ _ rfl
              simp only [Act.put]
              refine k_nil ?_
              intro W hCW hK
              have hG9 := hide (show ∃ g' v', (Value.pointer (some ⟨g, 0, none⟩)) = .pointer (some ⟨g', 0, none⟩) ∧ W.heap[g']? = some (.cells #[.int .i64 h, .int .i64 za, v'] 39 (0, 0)) ∧ LnsO W wo.heap.size v' L ∧ Below wo.heap.size wo W from ⟨g, v4, rfl, hK.1, hK.2, hCW⟩)
              clear hCW hK
              go_wp2
              all_goals go_meet
              all_goals exact hG9.out
            · refine k_one (fun K' u => ∃ g, u = .pointer (some ⟨g, 0, none⟩) ∧ K' = fun W => wo.heap.size ≤ g ∧ W.heap[g]? = some (.cells #[.int .i64 0, .int .i64 0, .slice none 0 0] 39 (0, 0))) (by apply opN; repeat' (first | apply OpAt.z | apply OpAt.s)) (by rfl) (by rfl) (by rfl) (fun W hCW hK => ?_) ?_
              · exact xup_val (op_al rfl (al_st W)) ⟨alloc_bel hCW (Nat.le_refl _) _, _, ⟨hCW.size, alloc_at1 W _⟩, W.heap.size, rfl, rfl⟩
              rintro _ _ ⟨g, rfl, rfl⟩
              simp only [Act.put, List.setIfInBounds_toArray, List.set_cons_zero, List.set_cons_succ]
              refine k_step (fun K' u => ∃ v4, u = .agg #[.int .i64 h, .int .i64 za, v4] ∧ K' = fun W => wo.heap.size ≤ g ∧ W.heap[g]? = some (.cells #[.int .i64 0, .int .i64 0, .slice none 0 0] 39 (0, 0)) ∧ LnsO W wo.heap.size v4 L) (by apply opN; repeat' (first | apply OpAt.z | apply OpAt.s)) (by rfl) (by rfl) (by rfl) (fun W hCW hK => ?_) ?_
              · refine op_x3 rfl rfl rfl rfl rfl cf_rof ?_
                refine (hC.out W hCW).mono ?_
                rintro e W' ⟨v4, rfl, h4, h5⟩
                exact ⟨_, rfl, hCW.trans (h5.mono hCW.size), _, ⟨hK.1, (h5.block _ (Array.getElem?_eq_some_iff.1 hK.2).1).trans hK.2, own_base h4 hCW.size⟩, v4, rfl, rfl⟩
              rintro _ _ ⟨v4, rfl, rfl⟩
              simp only [Act.put, List.setIfInBounds_toArray, List.set_cons_zero, List.set_cons_succ]
              refine k_step (fun K' u => K' = fun W => W.heap[g]? = some (.cells #[.int .i64 h, .int .i64 za, v4] 39 (0, 0)) ∧ LnsO W wo.heap.size v4 L) (by apply opN; repeat' (first | apply OpAt.z | apply OpAt.s)) (by rfl) (by rfl) (by rfl) (fun W hCW hK => ?_) ?_
              · obtain ⟨a4, n4, e4⟩ := lnl_block hK.2.2
                obtain ⟨W', r1, r2, r3, r4⟩ := stm_st hK.2.1 h za v4 (by rw [e4]; rfl)
                exact xup_skip (op_st rfl rfl rfl r1) ⟨r3 _ _ hCW (Nat.le_refl _) hK.1, _, ⟨r2, own_keep hK.2.2 fun k hk => r4 k (fun e => by
                    obtain ⟨c1, k1⟩ := (own_block hK.2.2 hk).2.2
                    exact blocks_ne k1 hK.2.1 (by decide) e)⟩, rfl⟩
              rintro _ _ rfl
              simp only [Act.put]
              refine k_nil ?_
              intro W hCW hK
              have hG9 := hide (show ∃ g' v', (Value.pointer (some ⟨g, 0, none⟩)) = .pointer (some ⟨g', 0, none⟩) ∧ W.heap[g']? = some (.cells #[.int .i64 h, .int .i64 za, v'] 39 (0, 0)) ∧ LnsO W wo.heap.size v' L ∧ Below wo.heap.size wo W from ⟨g, v4, rfl, hK.1, hK.2, hCW⟩)
              clear hCW hK
              go_wp2
              all_goals go_meet
              all_goals exact hG9.out
          case rest =>
          obtain ⟨g, v4, rfl, hg5, hL5, hBw5⟩ := hcut
          obtain ⟨w5, hw5⟩ : ∃ x, x = wc := ⟨_, rfl⟩
          subst hw5
          clear hC hc0 hcl
          have hBx := hide (hBo.out.trans (hBw5.mono (hsz.out wo hBo.out)))
          have hSx := hide (hS.out.next hBw5)
          have hLx := hide (own_base hL5 (hsz.out wo hBo.out))
          have hg5H := hide hg5
          clear hBo hS hBw5 hL5 hOo hcell
          obtain ⟨a5, n5, hv5⟩ := lnl_block hLx.out
          obtain ⟨q5, hq5⟩ : ∃ q, q = L.length := ⟨_, rfl⟩
          rw [← hq5] at hv5 hsn
          subst hv5
          clear hq5
          have c2 : w5.cell? ⟨g, 2, none⟩ = some (.slice a5 q5 n5) := cellAt hg5 2
          have hrow : w5.rangeAt g 0 (stc (h, za, .slice a5 q5 n5)) := st_row hg5
          have hps := st_size (h, za, .slice a5 q5 n5)
          have hl3 : (stc (h, za, .slice a5 q5 n5)).length = 3 := rfl
          clear hg5
          by_cases hz : 0 < q5
          · obtain ⟨v8, w8, hrun, hS8, hB8⟩ := hSx.out.app (n := h) (c := za) hLx.out hlen.out (hsz.out w5 hBx.out)
            have hS8H := hide hS8
            have hB8H := hide (hBx.out.trans hB8)
            have hsn2 := hide (show RW.stsP lb la za (hs.take (j + 1)) = RW.stsP lb la za (hs.take j) ++ [(h, za, L)] by rw [hsn.out, if_pos hz])
            clear hS8 hB8
            go_wp2_with (first
              | (refine wpList_load_mid rfl 39 (.tmp 10) rfl g 0 rfl (stc (h, za, .slice a5 q5 n5)) _ hrow Try.underlying39 rfl hps ?_)
              | (at_builtin; refine wpList_app_run rfl (.tmp 48) (.tmp 50) rfl rfl rfl hrun ?_))
            go_roundw
            case rel => exact ⟨j + 1, vs ++ [(h, za, .slice a5 q5 n5)], by go_num, by omega, by rw [hsn2.out]; exact hS8H.out, hB8H.out⟩
            case measure => simp [intOf]; omega
          · have hsn2 := hide (show RW.stsP lb la za (hs.take (j + 1)) = RW.stsP lb la za (hs.take j) by rw [hsn.out, if_neg hz, List.append_nil])
            go_wp2
            go_roundw
            case rel => exact ⟨j + 1, vs, by go_num, by omega, by rw [hsn2.out]; exact hSx.out, hBx.out⟩
            case measure => simp [intOf]; omega
        · obtain rfl : m = j := by omega
          have hS2 := hide (show StsO wo w3s _ vs (RW.stAll lb la za) by
            have h1 := hS.out
            rw [List.take_of_length_le (by rw [← hmH.out]; exact Nat.le_refl _), hhsH.out] at h1
            exact h1)
          clear hS
          go_wp2
          go_ret
          have hlt' := hlt.out
          exact ⟨_, vs, rfl, hS2.out.base (by omega), hBH.out ▸ (hO4.out wo hBo.out).bel⟩
end Go.Proofs.Ytillplhadimgmaa

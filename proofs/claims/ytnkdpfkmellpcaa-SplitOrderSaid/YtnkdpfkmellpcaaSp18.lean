/-
  Package royaltylaw12: SplitOrder: it returns true; only new memory is written.
-/
import Derived.Test.YtnkdpfkmellpcaaSp15
import Derived.Test.YtnkdpfkmellpcaaSp14
import Derived.Test.YtnkdpfkmellpcaaStg3
import Derived.Test.YtnkdpfkmellpcaaSpB
namespace Go.Proofs.Ytnkdpfkmellpcaa
open Go.RowKit RG
attribute [local go_sem ↓] ldRow_shares ldRow_fact
set_option maxRecDepth 10000 in
set_option maxHeartbeats 2000000 in
theorem splitorder_any (v : Value) (l : List RW.Fc) (tn r ro t p : Int) (ht1 : -9223372036854775808 ≤ tn) (ht2 : tn ≤ 9223372036854775807) (hl : l.length ≤ 9223372036854775807) (w : World) (hv : FactsV w v l) :
    Calls Try.prog 8 #[v, .int .i64 tn, .int .i64 r, .int .i64 ro, .int .i64 t, .int .i64 p] w fun e w' => e = .returned (.bool true) ∧ Below w.heap.size w w' := by
  obtain ⟨L, hL⟩ : ∃ L, L = l.take 30 := ⟨_, rfl⟩
  have hLn : L.length ≤ 30 := by rw [hL, List.length_take]; omega
  have hS := hide (sane_any w)
  have hC := hide (fun W (h : FactsV W v l) => cut_any v l hl W h)
  rw [← hL] at hC
  have hvH := hide hv
  obtain ⟨N, hN⟩ : ∃ N, N = L.length := ⟨_, rfl⟩
  have hP := hide (pick_any tn ((N : Int) + 1) ht1 ht2 (by omega) (by omega))
  have hpb := RW.pickI_bd tn ((N : Int) + 1) (by omega)
  obtain ⟨k, hk⟩ : ∃ k, k = RW.pickI tn ((N : Int) + 1) := ⟨_, rfl⟩
  rw [← hk] at hP hpb
  have hNH := hide hN
  have hpbH := hide hpb
  rw [← hN] at hLn
  clear hv hL hl hk hN ht1 ht2 hpb
  go_enter Try.func8, Try.ntmps8
  go_upto_region 3 with (first
    | (go_at_call 11; refine hS.out.mono ?_; rintro e w1 ⟨rfl, hB1⟩; have hB1H := hide hB1; clear hB1)
    | (go_at_call 12; refine (hC.out _ (hvH.out.next hB1H.out)).mono ?_; rintro e w2 ⟨⟨v2, rfl, hO2⟩, hB2⟩; have hO2H := hide hO2; have hB2H := hide (hB1H.out.trans (hB2.mono hB1H.out.size)); clear hO2 hB2)
    | (refine wpListStoreNew rfl 25 (.tmp 14) (.tmp 24) rfl (RW.bcl v2) rfl rfl 25 _ (base_size _) rfl (base_one _ hO2H.out.facts.one) ?_))
  obtain ⟨bb, hbb⟩ : ∃ b, b = w2.heap.size := ⟨_, rfl⟩
  have hA2 := (Below.refl w2.heap.size w2).alloc (Nat.le_refl _) (.cells (RW.bcl v2) 25)
  refine gen_w (fun W => W.heap[bb]? = some (.cells (RW.bcl v2) 25 (0, 0)) ∧ FactsV W v2 L ∧ Below w.heap.size w W) ⟨newAt hbb, hO2H.out.facts.next hA2, hB2H.out.alloc hB2H.out.size _⟩ ?_
  rw [← hbb]
  obtain ⟨kn, rfl⟩ : ∃ m : Nat, k = m := ⟨k.toNat, by have := hpbH.out; omega⟩
  have hkn := hpbH.out
  obtain ⟨vlo, vhi, hlo, hhi, hsub⟩ := slice_parts hO2H.out (show kn ≤ L.length by rw [← hNH.out]; omega)
  have hloH := hide hlo
  have hhiH := hide hhi
  have hsubH := hide hsub
  have hknH := hide (show kn ≤ N by omega)
  clear hlo hhi hsub hkn
  obtain ⟨a2, c2, rfl⟩ : ∃ a c, v2 = .slice a N c := by
    obtain ⟨a', c', e, _⟩ := hO2H.out.facts
    rw [← hNH.out] at e
    exact ⟨a', c', e⟩
  clear hbb hA2 hO2H hB2H hB1H hC hS hvH
  rintro w3 ⟨hb3, hf3, hB3⟩
  have hb3H := hide hb3
  have hf3H := hide hf3
  have hB3H := hide hB3
  have c3 := (cellAt hb3 2).trans (rfl : _ = some (Value.slice a2 N c2))
  clear hb3 hf3 hB3
  go_upto_region 4 with (go_at_call 25; refine (hP.out _).mono ?_; rintro e w' ⟨rfl, rfl⟩)
  have hloc := hide (fun W (h : Below w3.heap.size w3 W) => hsubH.out W (hf3H.out.next h))
  have hcell := hide (fun W (h : Below w3.heap.size w3 W) => (cellAt ((h.block _ (Array.getElem?_eq_some_iff.1 hb3H.out).1).trans hb3H.out) 2).trans (rfl : _ = some (Value.slice a2 N c2)))
  obtain ⟨n0, hn0e⟩ : ∃ n, n = w3.heap.size := ⟨_, rfl⟩
  rw [← hn0e] at hloc hcell
  have hn0 := hide hn0e
  clear hn0e c3
  go_cut [16] (fun s wx => ∃ b u, s = .pointer (some ⟨b, 0, none⟩) ∧ KE u (L.drop kn ++ L.take kn) b wx ∧ Below n0 w3 wx)
  case rest =>
    obtain ⟨bc, uc, rfl, hKE, hBc⟩ := hcut
    have hz1 := hide (show bb < wc.heap.size from Nat.lt_of_lt_of_le (Nat.lt_of_lt_of_le (Array.getElem?_eq_some_iff.1 hb3H.out).1 (Nat.le_of_eq hn0.out.symm)) (hn0.out ▸ hBc.size))
    have hBc' : Below w3.heap.size w3 wc := hn0.out ▸ hBc
    have hb4 := hide ((hBc'.block _ (Array.getElem?_eq_some_iff.1 hb3H.out).1).trans hb3H.out)
    have hf4 := hide (hf3H.out.next hBc')
    have hB4 := hide (hB3H.out.trans (hBc'.mono hB3H.out.size))
    have hKEH := hide hKE
    have tok := hide hBc'
    clear hKE hBc hBc' hb3H hf3H hB3H hn0 hloc hcell hloH hhiH hsubH
    go_upto_region 6 with fail
    obtain ⟨bd, hbd⟩ : ∃ b, b = wc.heap.size := ⟨_, rfl⟩
    have hA4 := (Below.refl wc.heap.size wc).alloc (Nat.le_refl _) (.cells (RW.bcl (.slice none 0 0)) 25)
    refine gen_w (fun W => OrdD wc bd [] (.slice none 0 0) W) ⟨newAt hbd, World.ownsRow_nil _ _ _ _, by rw [hbd]; exact hA4⟩ ?_
    rw [← hbd]
    have hbdH := hide hbd
    clear hbd hA4
    rintro w5 hO5
    have hO5H := hide hO5
    clear hO5
    have hrow := hide (fun W z l (h : OrdD wc bd l z W) => ((h.below.block _ (hbdH.out ▸ hz1.out)).trans hb4.out))
    have c5 := (cellAt (hrow.out _ _ _ hO5H.out) 2).trans (rfl : _ = some (Value.slice a2 N c2))
    go_wp2
    go_loopw [18] (fun i wr => ∃ j : Nat, i = .int .i64 ((j : Int) - 1) ∧ j ≤ N ∧ Hid (∃ z, OrdD wc bd (L.drop j).reverse z wr)) (fun i _ => (intOf i + 1).toNat)
    case atStart => exact ⟨N, rfl, Nat.le_refl _, _, by rw [show L.drop N = [] by rw [List.drop_eq_nil_iff, hNH.out]; exact Nat.le_refl _]; exact hO5H.out⟩
    case round =>
      clear c5
      obtain ⟨j, rfl, hj, hQ⟩ := hrel
      cases j with
      | zero =>
        obtain ⟨ud, hz⟩ := hQ.out
        rw [List.drop_zero] at hz
        have hb5 := hide (hrow.out _ _ _ hz)
        have hf5 := hide (hf4.out.next (hbdH.out ▸ hz.below))
        have hB5 := hide (hB4.out.trans ((hbdH.out ▸ hz.below : Below wc.heap.size wc wr).mono hB4.out.size))
        have hz5 := hide hz
        clear hz hQ
        go_upto_region 10 with fail
        have hL6 : L.length ≤ 1000000 := by rw [← hNH.out]; omega
        have hClm := hide (fun v W (h : FactsV W v L) => claims_any (RW.bcl v) v L r ro t p rfl hL6 W h)
        obtain ⟨cl, hcl⟩ : ∃ cl, cl = RW.claimsL r ro t p (L.map (·.1)) := ⟨_, rfl⟩
        rw [← hcl] at hClm
        have hclH := hide hcl
        clear hcl
        have hib := fun v => base_size v
        have hrw := hb5.out
        go_upto_region 11 with (first
          | (refine wpList_load_row rfl 25 (.tmp 14) rfl bb rfl 25 _ (0, 0) _ hrw Try.underlying25 rfl (base_size _) ?_)
          | (go_at_call 14; refine (hClm.out _ _ hf5.out).mono ?_; rintro e w6 ⟨⟨vx, rfl, hvx⟩, hB6⟩; have hvxH := hide hvx.parts; have hB6H := hide hB6; clear hvx hB6))
        have hB6' := hB6H.out
        have hasc := hide (show RW.Asc cl by rw [hclH.out]; exact RW.claims_asc _ _ _ _ _)
        obtain ⟨ax, cx, rfl, hcx, hax⟩ := hvxH.out
        obtain ⟨nx, hnx⟩ : ∃ n, n = cl.length := ⟨_, rfl⟩
        have hnl := RW.claims_len r ro t p (L.map (·.1))
        rw [List.length_map, ← hclH.out, ← hnx, ← hNH.out] at hnl
        rw [← hnx] at hcx ⊢
        have hnxH := hide hnx
        have haxH := hide hax
        clear hnx hax hvxH hClm hB6' hrw hib
        go_wp2
        obtain ⟨wo, hwo⟩ : ∃ wo, wo = wr := ⟨_, rfl⟩
        subst hwo
        go_loopw [20] (fun i wr => ∃ j : Nat, i = .int .i64 j ∧ 1 ≤ j ∧ Hid (Below w6.heap.size w6 wr)) (fun i _ => nx - (intOf i).toNat)
        case atStart => exact ⟨1, rfl, Nat.le_refl _, Below.refl _ _⟩
        case round =>
          obtain ⟨j, rfl, hj1, hW⟩ := hrel
          by_cases hlt : j < nx
          · obtain ⟨y, hy⟩ : ∃ y, cl[j]? = some y := ⟨_, List.getElem?_eq_getElem (by rw [← hnxH.out]; exact hlt)⟩
            obtain ⟨y', hy'⟩ : ∃ y, cl[j - 1]? = some y := ⟨_, List.getElem?_eq_getElem (by rw [← hnxH.out]; omega)⟩
            have hgt : y'.1 < y.1 := by
              have h1 := List.pairwise_iff_getElem.1 hasc.out (j - 1) j (by rw [← hnxH.out]; omega) (by rw [← hnxH.out]; exact hlt) (by omega)
              rw [(List.getElem?_eq_some_iff.1 hy).2, (List.getElem?_eq_some_iff.1 hy').2] at h1
              exact h1
            obtain ⟨b, o, rfl, hb, hc⟩ := haxH.out.resolve_left (by rintro rfl; simp at hy)
            obtain ⟨jj, rfl⟩ : ∃ q, j = q + 1 := ⟨j - 1, by omega⟩
            rw [Nat.add_sub_cancel] at hy'
            have hc1 := hide (fun W (h : Below w6.heap.size w6 W) => (World.cell?_of_block (a := ⟨b, o + (jj + 1) * 2 + 0, none⟩) (h.block _ hb)).trans (hc (jj + 1) y hy 0 _ rfl))
            have hc0 := hide (fun W (h : Below w6.heap.size w6 W) => (World.cell?_of_block (a := ⟨b, o + jj * 2 + 0, none⟩) (h.block _ hb)).trans (hc jj y' hy' 0 _ rfl))
            clear hb hc hy hy'
            go_upto_region 14 with fail
            refine wp_region_k (fun _ W => Below w6.heap.size w6 W) (fun _ => True) [] (.op 0 (.op 1 (.op 2 (.op 3 (.op 4 (.op 5 (.op 6 (.op 7 (.op 8 (.op 9 (.op 10 (.op 11 .nil)))))))))))) (by kernel_rfl) (by kernel_rfl) (by rfl) (by kernel_rfl) ⟨hW.out.os, hW.out.tape, hW.out.output, hW.out.size, hW.out.block⟩ trivial ?_
            refine k_val (.slice (some ⟨b, o, none⟩) nx cx) (by apply opN; repeat' (first | apply OpAt.z | apply OpAt.s)) (by rfl) (by rfl) (fun _ W hS => op_mv rfl rfl) ?_
            simp only [Act.put, List.setIfInBounds_toArray, List.set_cons_zero, List.set_cons_succ]
            refine k_val (.int .i64 ((jj + 1 : Nat) : Int)) (by apply opN; repeat' (first | apply OpAt.z | apply OpAt.s)) (by rfl) (by rfl) (fun _ W hS => op_mv rfl rfl) ?_
            simp only [Act.put, List.setIfInBounds_toArray, List.set_cons_zero, List.set_cons_succ]
            refine k_val (.pointer (some ⟨b, o + (jj + 1) * 2, none⟩)) (by apply opN; repeat' (first | apply OpAt.z | apply OpAt.s)) (by rfl) (by rfl) (fun _ W hS => op_idx_p rfl rfl rfl hlt) ?_
            simp only [Act.put, List.setIfInBounds_toArray, List.set_cons_zero, List.set_cons_succ]
            refine k_val (.pointer (some ⟨b, o + (jj + 1) * 2, none⟩)) (by apply opN; repeat' (first | apply OpAt.z | apply OpAt.s)) (by rfl) (by rfl) (fun _ W hS => op_fa_p0 rfl rfl) ?_
            simp only [Act.put, List.setIfInBounds_toArray, List.set_cons_zero, List.set_cons_succ]
            refine k_val (.int .i64 y.1) (by apply opN; repeat' (first | apply OpAt.z | apply OpAt.s)) (by rfl) (by rfl) (fun _ W hS => op_load_int rfl rfl (hc1.out W hS)) ?_
            simp only [Act.put, List.setIfInBounds_toArray, List.set_cons_zero, List.set_cons_succ]
            refine k_val (.slice (some ⟨b, o, none⟩) nx cx) (by apply opN; repeat' (first | apply OpAt.z | apply OpAt.s)) (by rfl) (by rfl) (fun _ W hS => op_mv rfl rfl) ?_
            simp only [Act.put, List.setIfInBounds_toArray, List.set_cons_zero, List.set_cons_succ]
            refine k_val (.int .i64 ((jj + 1 : Nat) : Int)) (by apply opN; repeat' (first | apply OpAt.z | apply OpAt.s)) (by rfl) (by rfl) (fun _ W hS => op_mv rfl rfl) ?_
            simp only [Act.put, List.setIfInBounds_toArray, List.set_cons_zero, List.set_cons_succ]
            refine k_val (.int .i64 (jj : Int)) (by apply opN; repeat' (first | apply OpAt.z | apply OpAt.s)) (by rfl) (by rfl) (fun _ W hS => op_pred (by omega) rfl rfl rfl) ?_
            simp only [Act.put, List.setIfInBounds_toArray, List.set_cons_zero, List.set_cons_succ]
            refine k_val (.pointer (some ⟨b, o + jj * 2, none⟩)) (by apply opN; repeat' (first | apply OpAt.z | apply OpAt.s)) (by rfl) (by rfl) (fun _ W hS => op_idx_p rfl rfl rfl (by omega)) ?_
            simp only [Act.put, List.setIfInBounds_toArray, List.set_cons_zero, List.set_cons_succ]
            refine k_val (.pointer (some ⟨b, o + jj * 2, none⟩)) (by apply opN; repeat' (first | apply OpAt.z | apply OpAt.s)) (by rfl) (by rfl) (fun _ W hS => op_fa_p0 rfl rfl) ?_
            simp only [Act.put, List.setIfInBounds_toArray, List.set_cons_zero, List.set_cons_succ]
            refine k_val (.int .i64 y'.1) (by apply opN; repeat' (first | apply OpAt.z | apply OpAt.s)) (by rfl) (by rfl) (fun _ W hS => op_load_int rfl rfl (hc0.out W hS)) ?_
            simp only [Act.put, List.setIfInBounds_toArray, List.set_cons_zero, List.set_cons_succ]
            refine k_val (.bool (decide (y.1 ≤ y'.1))) (by apply opN; repeat' (first | apply OpAt.z | apply OpAt.s)) (by rfl) (by rfl) (fun _ W hS => op_leqB rfl rfl rfl) ?_
            simp only [Act.put, List.setIfInBounds_toArray, List.set_cons_zero, List.set_cons_succ]
            refine k_nil ?_
            intro W hC _
            have hCH := hide hC
            have hn : ¬ y.1 ≤ y'.1 := by omega
            clear hC hc0 hc1
            go_wp2
            go_roundw
            case rel => exact ⟨jj + 2, by go_num, by omega, hCH.out⟩
            case measure => simp [intOf]; omega
          · have hB7 := hW.out
            have hB56 := hide ((hB6H.out.trans (hB7.mono hB6H.out.size)))
            clear hW haxH hnxH hasc hB7
            go_upto_region 16 with fail
            have hb7 := hide ((hB56.out.block _ (Nat.lt_of_lt_of_le (hbdH.out ▸ hz1.out : bb < bd) (Nat.le_of_lt hz5.out.lt))).trans hb5.out)
            have hf7 := hide (hf5.out.next hB56.out)
            have hz7 := hide (hz5.out.next hB56.out)
            have hrw := hb7.out
            have hOf := hide (fun v W fs (hl : fs.length ≤ 1000000) (h : FactsV W v fs) => of_any (RW.bcl v) v fs r ro t p rfl rfl hl W h)
            obtain ⟨R, hR⟩ : ∃ R, R = RW.resolve cl := ⟨_, rfl⟩
            have hOf1 := hide (fun v W (h : FactsV W v L) => hOf.out v W L hL6 h)
            rw [← hclH.out, ← hR] at hOf1
            have hRH := hide hR
            clear hR
            obtain ⟨R1, Rc, Ru⟩ := R
            go_upto_region 17 with (first
              | (refine wpList_load_row rfl 25 (.tmp 14) rfl bb rfl 25 _ (0, 0) _ hrw Try.underlying25 rfl (base_size _) ?_)
              | (go_at_call 17; refine (hOf1.out _ _ hf7.out).mono ?_; rintro e w8 ⟨⟨va, rfl, hva⟩, hB8⟩; have hvaH := hide hva.parts; have hB8H := hide hB8; clear hva hB8)
              | (refine wpListStoreNew rfl 32 (.tmp 21) (.tmp 90) rfl (RW.scl va Rc Ru) rfl rfl 32 _ (shares_size _ _ _) rfl (shares_one _ _ _ hvaH.out.one) ?_))
            obtain ⟨b8, hb8⟩ : ∃ b, b = w8.heap.size := ⟨_, rfl⟩
            have hB7c := hide ((hbdH.out ▸ hz7.out.below : Below wc.heap.size wc wr))
            have hA8 := hide (hB8H.out.alloc hB8H.out.size (.cells (RW.scl va Rc Ru) 32))
            refine gen_w (fun W => ShAt W b8 va (R1, Rc, Ru) ∧ KE uc (L.drop kn ++ L.take kn) bc W ∧ KE ud L.reverse bd W ∧ Below w.heap.size w W) ⟨by rw [hb8]; exact ShAt.new (s := (R1, Rc, Ru)) hvaH.out, (hKEH.out.next hB7c.out).next hA8.out, KE.next ⟨hz7.out.row, hz7.out.own.facts⟩ hA8.out, (hB5.out.trans (hB56.out.mono hB5.out.size)).trans (hA8.out.mono (Nat.le_trans hB5.out.size hB56.out.size))⟩ ?_
            rw [← hb8]
            clear hb8 hA8
            rintro w9 ⟨g1, g2, g3, g4⟩
            have hs8 := hide g1
            have hkc := hide g2
            have hkd := hide g3
            have hg4 := hide g4
            have hOc := hide (fun v W (h : FactsV W v (L.drop kn ++ L.take kn)) => hOf.out v W _ (by rw [List.length_append, List.length_drop, List.length_take]; omega) h)
            have hOd := hide (fun v W (h : FactsV W v L.reverse) => hOf.out v W _ (by rw [List.length_reverse]; exact hL6) h)
            have hc1 : RW.claimsL r ro t p ((L.drop kn ++ L.take kn).map (·.1)) = cl := by
              rw [hclH.out]
              refine RW.claims_perm (List.Perm.map _ ?_)
              exact List.perm_append_comm.trans (by rw [List.take_append_drop])
            have hc2 : RW.claimsL r ro t p (L.reverse.map (·.1)) = cl := by
              rw [hclH.out]
              exact RW.claims_perm (List.Perm.map _ (List.reverse_perm L))
            rw [hc1, ← hRH.out] at hOc
            rw [hc2, ← hRH.out] at hOd
            have hcn := RW.claims_len r ro t p (L.map (·.1))
            rw [List.length_map, ← hclH.out] at hcn
            have hcl6 : cl.length ≤ 1000000 := Nat.le_trans hcn hL6
            have hR1 : R1 = (RW.resolve cl).1 := by rw [← hRH.out]
            have hRl := hide (show R1.length ≤ 1000000 by rw [hR1]; exact rlen cl hcl6)
            have hRs := hide (show RW.Sound R1 by rw [hR1]; exact RW.resolve_sound cl)
            have hRw := hide (show RW.wholeB (R1, Rc, Ru) = true by rw [hRH.out]; exact RW.resolve_whole cl)
            clear g1 g2 g3 g4 hc1 hc2 hcn hcl6 hR1 hOf hOf1 hRH hclH hvaH hB8H hB7c hz7 hf7 hb7 hrw hB56 hz5 hf5 hB5 hb5 hKEH
            obtain ⟨n0, hn0e⟩ : ∃ n, n = w9.heap.size := ⟨_, rfl⟩
            have hn0 := hide hn0e
            clear hn0e
            refine wp_region_k (fun _ W => Below n0 w9 W) (fun _ => True) [8, 9, 18, 19, 23] (.op 0 (.op 1 (.op 2 (.op 3 (.op 4 (.op 5 (.op 6 (.op 7 (.op 8 (.op 9 (.op 10 (.op 11 (.op 12 (.op 13 (.op 14 (.op 15 (.op 16 (.op 17 (.op 18 (.op 19 (.op 20 (.op 21 (.op 22 (.op 23 (.op 24 (.op 25 .nil)))))))))))))))))))))))))) (by kernel_rfl) (by kernel_rfl) (by rfl) (by kernel_rfl) ((Below.refl _ _).drew) trivial ?_
            refine k_val (.bool true) (by apply opN; repeat' (first | apply OpAt.z | apply OpAt.s)) (by rfl) (by rfl) (fun _ W hS => op_mv rfl rfl) ?_
            simp only [Act.put, List.setIfInBounds_toArray, List.set_cons_zero, List.set_cons_succ]
            refine k_val (.bool true) (by apply opN; repeat' (first | apply OpAt.z | apply OpAt.s)) (by rfl) (by rfl) (fun _ W hS => op_mv rfl rfl) ?_
            simp only [Act.put, List.setIfInBounds_toArray, List.set_cons_zero, List.set_cons_succ]
            refine k_val (.agg (RW.scl va Rc Ru)) (by apply opN; repeat' (first | apply OpAt.z | apply OpAt.s)) (by rfl) (by rfl) (fun _ W hS => op_load_sh rfl rfl (hs8.out.next (hn0.out ▸ hS)).ld) ?_
            simp only [Act.put, List.setIfInBounds_toArray, List.set_cons_zero, List.set_cons_succ]
            refine k_val (.agg (RW.bcl uc)) (by apply opN; repeat' (first | apply OpAt.z | apply OpAt.s)) (by rfl) (by rfl) (fun _ W hS => op_load_base rfl rfl (hkc.out.next (hn0.out ▸ hS))) ?_
            simp only [Act.put, List.setIfInBounds_toArray, List.set_cons_zero, List.set_cons_succ]
            refine k_val (.int .i64 r) (by apply opN; repeat' (first | apply OpAt.z | apply OpAt.s)) (by rfl) (by rfl) (fun _ W hS => op_mv rfl rfl) ?_
            simp only [Act.put, List.setIfInBounds_toArray, List.set_cons_zero, List.set_cons_succ]
            refine k_val (.int .i64 ro) (by apply opN; repeat' (first | apply OpAt.z | apply OpAt.s)) (by rfl) (by rfl) (fun _ W hS => op_mv rfl rfl) ?_
            simp only [Act.put, List.setIfInBounds_toArray, List.set_cons_zero, List.set_cons_succ]
            refine k_val (.int .i64 t) (by apply opN; repeat' (first | apply OpAt.z | apply OpAt.s)) (by rfl) (by rfl) (fun _ W hS => op_mv rfl rfl) ?_
            simp only [Act.put, List.setIfInBounds_toArray, List.set_cons_zero, List.set_cons_succ]
            refine k_val (.int .i64 p) (by apply opN; repeat' (first | apply OpAt.z | apply OpAt.s)) (by rfl) (by rfl) (fun _ W hS => op_mv rfl rfl) ?_
            simp only [Act.put, List.setIfInBounds_toArray, List.set_cons_zero, List.set_cons_succ]
            refine k_step (fun K' u => ∃ v7, u = .agg (RW.scl v7 Rc Ru) ∧ K' = fun W => PartsV W v7 R1) (by apply opN; repeat' (first | apply OpAt.z | apply OpAt.s)) (by rfl) (by rfl) (by rfl) (fun W hS _ => ?_) ?_
            · refine op_x5 rfl rfl rfl rfl rfl rfl rfl (fun _ _ => rfl) ((hOc.out _ W (hkc.out.next (hn0.out ▸ hS)).2).mono ?_)
              rintro e W' ⟨⟨v7, rfl, hv7⟩, hB⟩
              exact ⟨_, rfl, Below.trans hS (hB.mono (Nat.le_trans (Nat.le_of_eq hn0.out) (Below.size hS))), _, hv7.parts, v7, rfl, rfl⟩
            rintro _ _ ⟨v9, rfl, rfl⟩
            simp only [Act.put, List.setIfInBounds_toArray, List.set_cons_zero, List.set_cons_succ]
            refine k_step (fun K' u => u = .bool true ∧ K' = fun _ => True) (by apply opN; repeat' (first | apply OpAt.z | apply OpAt.s)) (by rfl) (by rfl) (by rfl) (fun W hS hK => ?_) ?_
            · refine op_x2 rfl rfl rfl rfl (fun _ _ => rfl) ((rsame_any va v9 R1 R1 Rc Rc Ru Ru hRl.out hRl.out W (hs8.out.next (hn0.out ▸ hS)).parts hK).mono ?_)
              rintro e W' ⟨rfl, hB⟩
              exact ⟨_, rfl, Below.trans hS (hB.mono (Nat.le_trans (Nat.le_of_eq hn0.out) (Below.size hS))), _, trivial, by simp, rfl⟩
            rintro _ _ ⟨rfl, rfl⟩
            simp only [Act.put, List.setIfInBounds_toArray, List.set_cons_zero, List.set_cons_succ]
            refine k_val (.bool true) (by apply opN; repeat' (first | apply OpAt.z | apply OpAt.s)) (by rfl) (by rfl) (fun _ W hS => op_pk rfl rfl rfl rfl rfl) ?_
            simp only [Act.put, List.setIfInBounds_toArray, List.set_cons_zero, List.set_cons_succ]
            refine k_val (.bool true) (by apply opN; repeat' (first | apply OpAt.z | apply OpAt.s)) (by rfl) (by rfl) (fun _ W hS => op_mv rfl rfl) ?_
            simp only [Act.put, List.setIfInBounds_toArray, List.set_cons_zero, List.set_cons_succ]
            refine k_val (.agg (RW.scl va Rc Ru)) (by apply opN; repeat' (first | apply OpAt.z | apply OpAt.s)) (by rfl) (by rfl) (fun _ W hS => op_load_sh rfl rfl (hs8.out.next (hn0.out ▸ hS)).ld) ?_
            simp only [Act.put, List.setIfInBounds_toArray, List.set_cons_zero, List.set_cons_succ]
            refine k_val (.agg (RW.bcl ud)) (by apply opN; repeat' (first | apply OpAt.z | apply OpAt.s)) (by rfl) (by rfl) (fun _ W hS => op_load_base rfl rfl (hkd.out.next (hn0.out ▸ hS))) ?_
            simp only [Act.put, List.setIfInBounds_toArray, List.set_cons_zero, List.set_cons_succ]
            refine k_val (.int .i64 r) (by apply opN; repeat' (first | apply OpAt.z | apply OpAt.s)) (by rfl) (by rfl) (fun _ W hS => op_mv rfl rfl) ?_
            simp only [Act.put, List.setIfInBounds_toArray, List.set_cons_zero, List.set_cons_succ]
            refine k_val (.int .i64 ro) (by apply opN; repeat' (first | apply OpAt.z | apply OpAt.s)) (by rfl) (by rfl) (fun _ W hS => op_mv rfl rfl) ?_
            simp only [Act.put, List.setIfInBounds_toArray, List.set_cons_zero, List.set_cons_succ]
            refine k_val (.int .i64 t) (by apply opN; repeat' (first | apply OpAt.z | apply OpAt.s)) (by rfl) (by rfl) (fun _ W hS => op_mv rfl rfl) ?_
            simp only [Act.put, List.setIfInBounds_toArray, List.set_cons_zero, List.set_cons_succ]
            refine k_val (.int .i64 p) (by apply opN; repeat' (first | apply OpAt.z | apply OpAt.s)) (by rfl) (by rfl) (fun _ W hS => op_mv rfl rfl) ?_
            simp only [Act.put, List.setIfInBounds_toArray, List.set_cons_zero, List.set_cons_succ]
            refine k_step (fun K' u => ∃ v7, u = .agg (RW.scl v7 Rc Ru) ∧ K' = fun W => PartsV W v7 R1) (by apply opN; repeat' (first | apply OpAt.z | apply OpAt.s)) (by rfl) (by rfl) (by rfl) (fun W hS _ => ?_) ?_
            · refine op_x5 rfl rfl rfl rfl rfl rfl rfl (fun _ _ => rfl) ((hOd.out _ W (hkd.out.next (hn0.out ▸ hS)).2).mono ?_)
              rintro e W' ⟨⟨v7, rfl, hv7⟩, hB⟩
              exact ⟨_, rfl, Below.trans hS (hB.mono (Nat.le_trans (Nat.le_of_eq hn0.out) (Below.size hS))), _, hv7.parts, v7, rfl, rfl⟩
            rintro _ _ ⟨v19, rfl, rfl⟩
            simp only [Act.put, List.setIfInBounds_toArray, List.set_cons_zero, List.set_cons_succ]
            refine k_step (fun K' u => u = .bool true ∧ K' = fun _ => True) (by apply opN; repeat' (first | apply OpAt.z | apply OpAt.s)) (by rfl) (by rfl) (by rfl) (fun W hS hK => ?_) ?_
            · refine op_x2 rfl rfl rfl rfl (fun _ _ => rfl) ((rsame_any va v19 R1 R1 Rc Rc Ru Ru hRl.out hRl.out W (hs8.out.next (hn0.out ▸ hS)).parts hK).mono ?_)
              rintro e W' ⟨rfl, hB⟩
              exact ⟨_, rfl, Below.trans hS (hB.mono (Nat.le_trans (Nat.le_of_eq hn0.out) (Below.size hS))), _, trivial, by simp, rfl⟩
            rintro _ _ ⟨rfl, rfl⟩
            simp only [Act.put, List.setIfInBounds_toArray, List.set_cons_zero, List.set_cons_succ]
            refine k_val (.bool true) (by apply opN; repeat' (first | apply OpAt.z | apply OpAt.s)) (by rfl) (by rfl) (fun _ W hS => op_pk rfl rfl rfl rfl rfl) ?_
            simp only [Act.put, List.setIfInBounds_toArray, List.set_cons_zero, List.set_cons_succ]
            refine k_val (.bool true) (by apply opN; repeat' (first | apply OpAt.z | apply OpAt.s)) (by rfl) (by rfl) (fun _ W hS => op_mv rfl rfl) ?_
            simp only [Act.put, List.setIfInBounds_toArray, List.set_cons_zero, List.set_cons_succ]
            refine k_val (.agg (RW.scl va Rc Ru)) (by apply opN; repeat' (first | apply OpAt.z | apply OpAt.s)) (by rfl) (by rfl) (fun _ W hS => op_load_sh rfl rfl (hs8.out.next (hn0.out ▸ hS)).ld) ?_
            simp only [Act.put, List.setIfInBounds_toArray, List.set_cons_zero, List.set_cons_succ]
            refine k_step (fun K' u => u = .bool true ∧ K' = fun _ => True) (by apply opN; repeat' (first | apply OpAt.z | apply OpAt.s)) (by rfl) (by rfl) (by rfl) (fun W hS hK => ?_) ?_
            · refine op_x1 rfl rfl rfl (fun _ _ => rfl) ((whole_any va R1 Rc Ru hRs.out hRl.out hRw.out W (hs8.out.next (hn0.out ▸ hS)).parts).mono ?_)
              rintro e W' ⟨rfl, hB⟩
              exact ⟨_, rfl, Below.trans hS (hB.mono (Nat.le_trans (Nat.le_of_eq hn0.out) (Below.size hS))), _, trivial, rfl, rfl⟩
            rintro _ _ ⟨rfl, rfl⟩
            simp only [Act.put, List.setIfInBounds_toArray, List.set_cons_zero, List.set_cons_succ]
            refine k_val (.bool true) (by apply opN; repeat' (first | apply OpAt.z | apply OpAt.s)) (by rfl) (by rfl) (fun _ W hS => op_pk rfl rfl rfl rfl rfl) ?_
            simp only [Act.put, List.setIfInBounds_toArray, List.set_cons_zero, List.set_cons_succ]
            refine k_val (.bool true) (by apply opN; repeat' (first | apply OpAt.z | apply OpAt.s)) (by rfl) (by rfl) (fun _ W hS => op_asg rfl rfl) ?_
            simp only [Act.put, List.setIfInBounds_toArray, List.set_cons_zero, List.set_cons_succ]
            refine k_nil ?_
            intro W' hb _
            have hbH := hide hb
            clear hb
            go_wp2
            go_ret
            exact ⟨rfl, hg4.out.trans (hbH.out.mono (by rw [hn0.out]; exact hg4.out.size))⟩
      | succ m =>
        obtain ⟨z, hz⟩ := hQ.out
        rw [show ((m + 1 : Nat) : Int) - 1 = (m : Int) by omega]
        obtain ⟨az, cz, rfl⟩ : ∃ a c, z = .slice a (L.drop (m + 1)).reverse.length c := by
          obtain ⟨a, c, e, _⟩ := hz.own.facts
          exact ⟨a, c, e⟩
        obtain ⟨nz, hnz⟩ : ∃ n, n = (L.drop (m + 1)).reverse.length := ⟨_, rfl⟩
        rw [← hnz] at hz
        have hml : m < L.length := by rw [← hNH.out]; omega
        obtain ⟨x, hx⟩ : ∃ x, L[m]? = some x := ⟨_, List.getElem?_eq_getElem hml⟩
        have hrev := hide (show (L.drop m).reverse = (L.drop (m + 1)).reverse ++ [x] by
          rw [List.drop_eq_getElem_cons hml, List.reverse_cons, (List.getElem?_eq_some_iff.1 hx).2])
        have hlr := hide (show (L.drop (m + 1)).reverse.length + 1 ≤ 1000000 by rw [List.length_reverse, List.length_drop]; have := hNH.out; omega)
        obtain ⟨a', c', he, _, hvl⟩ := hf4.out
        rw [← hNH.out] at he
        injection he with he1 _ he2
        have he3 := he1.symm
        have he4 := he2.symm
        clear he1 he2
        subst he3 he4
        obtain ⟨b2, o2, rfl, hb2, hc2⟩ := hvl.resolve_left (by rintro rfl; simp at hml)
        have hzH := hide hz
        have hcm := hide (fun W (h : Below bd wc W) => fact_ld_mid (W := W) (b := b2) (i := o2 + m * 18) (q := x) (fun jj u hj => (World.cell?_of_block (a := ⟨b2, _, none⟩) (h.block _ (hbdH.out ▸ hb2))).trans (hc2 m x hx jj u hj)))
        have hgr := hide (fun W (h : Below bd wc W) => (cellAt ((h.block _ (hbdH.out ▸ hz1.out)).trans hb4.out) 2).trans (rfl : _ = some (Value.slice (some ⟨b2, o2, none⟩) N c')))
        clear hz hx hb2 hc2 hml hvl hQ hnz
        have hge : (0 : Int) ≤ (m : Int) := by omega
        have hlt : m < N := by omega
        go_upto_region 9 with fail
        have hltH := hide hzH.out.lt
        have hz0 := hide hzH.out.below
        refine wp_region_k (fun g W => Below bd wc W ∧ (10 ∉ g → W.heap[bd]? = some (.cells (RW.bcl (.slice az nz cz)) 25 (0, 0)))) (fun W => OrdD wc bd (L.drop (m + 1)).reverse (.slice az nz cz) W) [7, 8, 10] (.op 0 (.op 1 (.op 2 (.op 3 (.op 4 (.op 5 (.op 6 (.op 7 (.op 8 (.op 9 (.op 10 .nil))))))))))) (by kernel_rfl) (by kernel_rfl) (by rfl) (by kernel_rfl) ⟨(hzH.out.next ((Below.refl _ _).drew)).below, fun _ => (hzH.out.next ((Below.refl _ _).drew)).row⟩ (hzH.out.next ((Below.refl _ _).drew)) ?_
        refine k_val (.pointer (some ⟨bd, 2, none⟩)) (by apply opN; repeat' (first | apply OpAt.z | apply OpAt.s)) (by rfl) (by rfl) (fun g W hS => op_fa_b2 rfl rfl) ?_
        simp only [Act.put, List.setIfInBounds_toArray, List.set_cons_zero, List.set_cons_succ]
        refine k_bef 10 (.slice az nz cz) (by apply opN; repeat' (first | apply OpAt.z | apply OpAt.s)) (by rfl) (by rfl) (by decide +kernel) (by rfl) (fun g W hg hS => op_load_fs rfl rfl ((cellAt (hS.2 hg) 2).trans rfl)) ?_
        simp only [Act.put, List.setIfInBounds_toArray, List.set_cons_zero, List.set_cons_succ]
        refine k_val (.pointer (some ⟨bb, 2, none⟩)) (by apply opN; repeat' (first | apply OpAt.z | apply OpAt.s)) (by rfl) (by rfl) (fun g W hS => op_fa_b2 rfl rfl) ?_
        simp only [Act.put, List.setIfInBounds_toArray, List.set_cons_zero, List.set_cons_succ]
        refine k_val (.slice (some ⟨b2, o2, none⟩) N c') (by apply opN; repeat' (first | apply OpAt.z | apply OpAt.s)) (by rfl) (by rfl) (fun g W hS => op_load_fs rfl rfl (hgr.out W hS.1)) ?_
        simp only [Act.put, List.setIfInBounds_toArray, List.set_cons_zero, List.set_cons_succ]
        refine k_val (.int .i64 m) (by apply opN; repeat' (first | apply OpAt.z | apply OpAt.s)) (by rfl) (by rfl) (fun g W hS => op_mv rfl rfl) ?_
        simp only [Act.put, List.setIfInBounds_toArray, List.set_cons_zero, List.set_cons_succ]
        refine k_val (.pointer (some ⟨b2, o2 + m * 18, none⟩)) (by apply opN; repeat' (first | apply OpAt.z | apply OpAt.s)) (by rfl) (by rfl) (fun g W hS => op_idx_f rfl rfl rfl hlt) ?_
        simp only [Act.put, List.setIfInBounds_toArray, List.set_cons_zero, List.set_cons_succ]
        refine k_val (.agg (RW.fce x).toArray) (by apply opN; repeat' (first | apply OpAt.z | apply OpAt.s)) (by rfl) (by rfl) (fun g W hS => op_load_f rfl rfl (hcm.out W hS.1)) ?_
        simp only [Act.put, List.setIfInBounds_toArray, List.set_cons_zero, List.set_cons_succ]
        refine k_step (fun K' u => ∃ g, u = .slice (some ⟨g, 0, none⟩) 1 1 ∧ K' = fun W => OrdD wc bd (L.drop (m + 1)).reverse (.slice az nz cz) W ∧ FactsV W u [x]) (by apply opN; repeat' (first | apply OpAt.z | apply OpAt.s)) (by rfl) (by rfl) (by rfl) (fun W hC hK => ?_) ?_
        · rw [op_bs_f rfl rfl]
          have hA := (Below.refl W.heap.size W).alloc (Nat.le_refl _) (.cells (RW.fce x).toArray 43)
          have hl : FactsV (W.alloc (.cells (rowCells RW.fce [x]).toArray 43)) (.slice (some ⟨W.heap.size, 0, none⟩) 1 1) [x] := rows_lit W 43 fcl_len [x]
          rw [show rowCells RW.fce [x] = RW.fce x by rw [rowCells, List.flatMap_cons, List.flatMap_nil, List.append_nil]] at hl
          exact ⟨⟨(hK.next hA).below, fun _ => (hK.next hA).row⟩, _, ⟨hK.next hA, hl⟩, W.heap.size, rfl, rfl⟩
        rintro _ _ ⟨g7, rfl, rfl⟩
        simp only [Act.put, List.setIfInBounds_toArray, List.set_cons_zero, List.set_cons_succ]
        refine k_step (fun K' u => ∃ a n c, u = .slice a n c ∧ K' = fun W => OwnF W (bd + 1) u (L.drop m).reverse ∧ W.heap[bd]? = some (.cells (RW.bcl (.slice az nz cz)) 25 (0, 0)) ∧ Below bd wc W) (by apply opN; repeat' (first | apply OpAt.z | apply OpAt.s)) (by rfl) (by rfl) (by rfl) (fun W hC hK => ?_) ?_
        · obtain ⟨a, n, c, W2, h1, h2, h3, h4, h5⟩ := hK.1.app hK.2 hlr.out 22
          rw [op_app rfl rfl rfl h1]
          exact ⟨⟨h4, fun _ => h3⟩, _, ⟨by rw [hrev.out]; exact h2, h3, h4⟩, a, n, c, rfl, rfl⟩
        rintro _ _ ⟨a8, n8, c8, rfl, rfl⟩
        simp only [Act.put, List.setIfInBounds_toArray, List.set_cons_zero, List.set_cons_succ]
        refine k_val (.pointer (some ⟨bd, 2, none⟩)) (by apply opN; repeat' (first | apply OpAt.z | apply OpAt.s)) (by rfl) (by rfl) (fun g W hS => op_fa_b2 rfl rfl) ?_
        simp only [Act.put, List.setIfInBounds_toArray, List.set_cons_zero, List.set_cons_succ]
        refine k_step (fun K' u => u = undef ∧ K' = fun W => OrdD wc bd (L.drop m).reverse (.slice a8 n8 c8) W) (by apply opN; repeat' (first | apply OpAt.z | apply OpAt.s)) (by rfl) (by rfl) (by rfl) (fun W hC hK => ?_) ?_
        · rw [op_store_fs rfl rfl rfl ((cellAt hK.2.1 2).trans rfl) (by simp [World.frozen?, hK.2.1])]
          exact ⟨⟨(OrdD.put hK.2.1 hK.1 hK.2.2).below, fun h => absurd (by simp) h⟩, _, OrdD.put hK.2.1 hK.1 hK.2.2, rfl, rfl⟩
        rintro _ _ ⟨rfl, rfl⟩
        simp only [Act.put]
        refine k_nil ?_
        intro W hC hK
        have hKH := hide hK
        clear hK hC
        go_wp2
        go_roundw
        case rel => exact ⟨m, by go_num, by omega, _, hKH.out⟩
        case measure => simp [intOf]
  refine wp_region_k (fun _ W => Below n0 w3 W) (fun _ => True) [0, 5, 10, 12, 13] (.op 1 (.op 2 (.op 3 (.op 4 (.op 6 (.op 7 (.op 8 (.op 9 (.fork 0 (.fork 5 (.fork 10 (.op 11 (.op 12 (.op 13 .nil))) 12 (.op 10 (.op 11 (.op 13 .nil)))) 12 (.op 5 (.op 10 (.op 11 (.op 13 .nil))))) 12 (.op 0 (.op 5 (.op 10 (.op 11 (.op 13 .nil)))))))))))))) (by kernel_rfl) (by kernel_rfl) (by rfl) (by kernel_rfl) ((Below.refl _ _).drew) trivial ?_
  refine k_val (.pointer (some ⟨bb, 2, none⟩)) (by apply opN; repeat' (first | apply OpAt.z | apply OpAt.s)) (by rfl) (by rfl) (fun _ W hS => op_fa_b2 rfl rfl) ?_
  simp only [Act.put, List.setIfInBounds_toArray, List.set_cons_zero, List.set_cons_succ]
  refine k_val (.slice a2 N c2) (by apply opN; repeat' (first | apply OpAt.z | apply OpAt.s)) (by rfl) (by rfl) (fun _ W hS => op_load_fs rfl rfl (hcell.out W hS)) ?_
  simp only [Act.put, List.setIfInBounds_toArray, List.set_cons_zero, List.set_cons_succ]
  refine k_val (.int .i64 kn) (by apply opN; repeat' (first | apply OpAt.z | apply OpAt.s)) (by rfl) (by rfl) (fun _ W hS => op_mv rfl rfl) ?_
  simp only [Act.put, List.setIfInBounds_toArray, List.set_cons_zero, List.set_cons_succ]
  refine k_val (vlo) (by apply opN; repeat' (first | apply OpAt.z | apply OpAt.s)) (by rfl) (by rfl) (fun _ W hS => hloH.out _ _ _ _ _ rfl rfl rfl) ?_
  simp only [Act.put, List.setIfInBounds_toArray, List.set_cons_zero, List.set_cons_succ]
  refine k_val (.pointer (some ⟨bb, 2, none⟩)) (by apply opN; repeat' (first | apply OpAt.z | apply OpAt.s)) (by rfl) (by rfl) (fun _ W hS => op_fa_b2 rfl rfl) ?_
  simp only [Act.put, List.setIfInBounds_toArray, List.set_cons_zero, List.set_cons_succ]
  refine k_val (.slice a2 N c2) (by apply opN; repeat' (first | apply OpAt.z | apply OpAt.s)) (by rfl) (by rfl) (fun _ W hS => op_load_fs rfl rfl (hcell.out W hS)) ?_
  simp only [Act.put, List.setIfInBounds_toArray, List.set_cons_zero, List.set_cons_succ]
  refine k_val (.int .i64 kn) (by apply opN; repeat' (first | apply OpAt.z | apply OpAt.s)) (by rfl) (by rfl) (fun _ W hS => op_mv rfl rfl) ?_
  simp only [Act.put, List.setIfInBounds_toArray, List.set_cons_zero, List.set_cons_succ]
  refine k_val (vhi) (by apply opN; repeat' (first | apply OpAt.z | apply OpAt.s)) (by rfl) (by rfl) (fun _ W hS => hhiH.out _ _ _ _ _ rfl rfl rfl) ?_
  simp only [Act.put, List.setIfInBounds_toArray, List.set_cons_zero, List.set_cons_succ]
  refine h_fork ?_ ?_
  · refine k_one (fun K' u => ∃ g, u = .slice (some ⟨g, 0, none⟩) 0 0 ∧ K' = KK n0 u [] none) (by apply opN; repeat' (first | apply OpAt.z | apply OpAt.s)) (by rfl) (by rfl) (by rfl) (fun W hC hK => ?_) ?_
    · rw [op_mt rfl]
      exact ⟨Below.alloc hC (hn0.out ▸ Below.size hC) _, _, kk_mt (hn0.out ▸ Below.size hC), W.heap.size, rfl, rfl⟩
    rintro _ _ ⟨g1, rfl, rfl⟩
    simp only [Act.put, List.setIfInBounds_toArray, List.set_cons_zero, List.set_cons_succ]
    refine h_fork ?_ ?_
    · refine k_one (fun K' u => ∃ a n c, u = .slice a n c ∧ K' = KK n0 u ([] ++ L.drop kn) none) (by apply opN; repeat' (first | apply OpAt.z | apply OpAt.s)) (by rfl) (by rfl) (by rfl) (fun W hC hK => ?_) ?_
      · obtain ⟨a, n, c, W', h1, h2, h3⟩ := kk_app hK (hn0.out ▸ Below.size hC) (hloc.out W hC).1 (by simp only [List.length_nil, List.length_drop]; have := hNH.out; omega) 22
        rw [op_app rfl rfl rfl h1]
        exact ⟨Below.trans hC h3, _, h2, a, n, c, rfl, rfl⟩
      rintro _ _ ⟨a2, n2, c2, rfl, rfl⟩
      simp only [Act.put, List.setIfInBounds_toArray, List.set_cons_zero, List.set_cons_succ]
      refine h_fork ?_ ?_
      · refine k_one (fun K' u => ∃ a n c, u = .slice a n c ∧ K' = KK n0 u (([] ++ L.drop kn) ++ L.take kn) none) (by apply opN; repeat' (first | apply OpAt.z | apply OpAt.s)) (by rfl) (by rfl) (by rfl) (fun W hC hK => ?_) ?_
        · obtain ⟨a, n, c, W', h1, h2, h3⟩ := kk_app hK (hn0.out ▸ Below.size hC) (hloc.out W hC).2 (by simp only [List.length_append, List.length_nil, List.length_drop, List.length_take]; have := hNH.out; omega) 22
          rw [op_app rfl rfl rfl h1]
          exact ⟨Below.trans hC h3, _, h2, a, n, c, rfl, rfl⟩
        rintro _ _ ⟨a3, n3, c3, rfl, rfl⟩
        simp only [Act.put, List.setIfInBounds_toArray, List.set_cons_zero, List.set_cons_succ]
        refine k_val (.agg (RW.bcl (.slice a3 n3 c3))) (by apply opN; repeat' (first | apply OpAt.z | apply OpAt.s)) (by rfl) (by rfl) (fun _ W hS => op_build_b rfl rfl) ?_
        simp only [Act.put, List.setIfInBounds_toArray, List.set_cons_zero, List.set_cons_succ]
        refine k_step (fun K' u => ∃ b, u = .pointer (some ⟨b, 0, none⟩) ∧ K' = KK n0 (.slice a3 n3 c3) (([] ++ L.drop kn) ++ L.take kn) (some b)) (by apply opN; repeat' (first | apply OpAt.z | apply OpAt.s)) (by rfl) (by rfl) (by rfl) (fun W hC hK => ?_) ?_
        · rw [op_alloc_b rfl]
          exact ⟨Below.alloc hC (hn0.out ▸ Below.size hC) _, _, kk_al hK (hn0.out ▸ Below.size hC), W.heap.size, rfl, rfl⟩
        rintro _ _ ⟨b4, rfl, rfl⟩
        simp only [Act.put, List.setIfInBounds_toArray, List.set_cons_zero, List.set_cons_succ]
        refine k_step (fun K' u => u = undef ∧ K' = fun W => KE (.slice a3 n3 c3) (([] ++ L.drop kn) ++ L.take kn) b4 W) (by apply opN; repeat' (first | apply OpAt.z | apply OpAt.s)) (by rfl) (by rfl) (by rfl) (fun W hC hK => ?_) ?_
        · rw [op_store_b rfl rfl rfl rfl (hK.2 _ rfl).2]
          exact ⟨belowSetRow hC (hK.2 _ rfl).1 _, _, ke_of hK, rfl, rfl⟩
        rintro _ _ ⟨rfl, rfl⟩
        simp only [Act.put]
        refine k_nil ?_
        intro W hC hK
        go_wp2
        go_meet
        exact ⟨_, _, rfl, hK, hC⟩
      · refine k_one (fun K' u => ∃ b, u = .pointer (some ⟨b, 0, none⟩) ∧ K' = KK n0 (.slice a2 n2 c2) ([] ++ L.drop kn) (some b)) (by apply opN; repeat' (first | apply OpAt.z | apply OpAt.s)) (by rfl) (by rfl) (by rfl) (fun W hC hK => ?_) ?_
        · rw [op_alloc_b rfl]
          exact ⟨Below.alloc hC (hn0.out ▸ Below.size hC) _, _, kk_al hK (hn0.out ▸ Below.size hC), W.heap.size, rfl, rfl⟩
        rintro _ _ ⟨b5, rfl, rfl⟩
        simp only [Act.put, List.setIfInBounds_toArray, List.set_cons_zero, List.set_cons_succ]
        refine k_step (fun K' u => ∃ a n c, u = .slice a n c ∧ K' = KK n0 u (([] ++ L.drop kn) ++ L.take kn) (some b5)) (by apply opN; repeat' (first | apply OpAt.z | apply OpAt.s)) (by rfl) (by rfl) (by rfl) (fun W hC hK => ?_) ?_
        · obtain ⟨a, n, c, W', h1, h2, h3⟩ := kk_app hK (hn0.out ▸ Below.size hC) (hloc.out W hC).2 (by simp only [List.length_append, List.length_nil, List.length_drop, List.length_take]; have := hNH.out; omega) 22
          rw [op_app rfl rfl rfl h1]
          exact ⟨Below.trans hC h3, _, h2, a, n, c, rfl, rfl⟩
        rintro _ _ ⟨a6, n6, c6, rfl, rfl⟩
        simp only [Act.put, List.setIfInBounds_toArray, List.set_cons_zero, List.set_cons_succ]
        refine k_val (.agg (RW.bcl (.slice a6 n6 c6))) (by apply opN; repeat' (first | apply OpAt.z | apply OpAt.s)) (by rfl) (by rfl) (fun _ W hS => op_build_b rfl rfl) ?_
        simp only [Act.put, List.setIfInBounds_toArray, List.set_cons_zero, List.set_cons_succ]
        refine k_step (fun K' u => u = undef ∧ K' = fun W => KE (.slice a6 n6 c6) (([] ++ L.drop kn) ++ L.take kn) b5 W) (by apply opN; repeat' (first | apply OpAt.z | apply OpAt.s)) (by rfl) (by rfl) (by rfl) (fun W hC hK => ?_) ?_
        · rw [op_store_b rfl rfl rfl rfl (hK.2 _ rfl).2]
          exact ⟨belowSetRow hC (hK.2 _ rfl).1 _, _, ke_of hK, rfl, rfl⟩
        rintro _ _ ⟨rfl, rfl⟩
        simp only [Act.put]
        refine k_nil ?_
        intro W hC hK
        go_wp2
        go_meet
        exact ⟨_, _, rfl, hK, hC⟩
    · refine k_one (fun K' u => ∃ b, u = .pointer (some ⟨b, 0, none⟩) ∧ K' = KK n0 (.slice (some ⟨g1, 0, none⟩) 0 0) [] (some b)) (by apply opN; repeat' (first | apply OpAt.z | apply OpAt.s)) (by rfl) (by rfl) (by rfl) (fun W hC hK => ?_) ?_
      · rw [op_alloc_b rfl]
        exact ⟨Below.alloc hC (hn0.out ▸ Below.size hC) _, _, kk_al hK (hn0.out ▸ Below.size hC), W.heap.size, rfl, rfl⟩
      rintro _ _ ⟨b7, rfl, rfl⟩
      simp only [Act.put, List.setIfInBounds_toArray, List.set_cons_zero, List.set_cons_succ]
      refine k_step (fun K' u => ∃ a n c, u = .slice a n c ∧ K' = KK n0 u ([] ++ L.drop kn) (some b7)) (by apply opN; repeat' (first | apply OpAt.z | apply OpAt.s)) (by rfl) (by rfl) (by rfl) (fun W hC hK => ?_) ?_
      · obtain ⟨a, n, c, W', h1, h2, h3⟩ := kk_app hK (hn0.out ▸ Below.size hC) (hloc.out W hC).1 (by simp only [List.length_nil, List.length_drop]; have := hNH.out; omega) 22
        rw [op_app rfl rfl rfl h1]
        exact ⟨Below.trans hC h3, _, h2, a, n, c, rfl, rfl⟩
      rintro _ _ ⟨a8, n8, c8, rfl, rfl⟩
      simp only [Act.put, List.setIfInBounds_toArray, List.set_cons_zero, List.set_cons_succ]
      refine k_step (fun K' u => ∃ a n c, u = .slice a n c ∧ K' = KK n0 u (([] ++ L.drop kn) ++ L.take kn) (some b7)) (by apply opN; repeat' (first | apply OpAt.z | apply OpAt.s)) (by rfl) (by rfl) (by rfl) (fun W hC hK => ?_) ?_
      · obtain ⟨a, n, c, W', h1, h2, h3⟩ := kk_app hK (hn0.out ▸ Below.size hC) (hloc.out W hC).2 (by simp only [List.length_append, List.length_nil, List.length_drop, List.length_take]; have := hNH.out; omega) 22
        rw [op_app rfl rfl rfl h1]
        exact ⟨Below.trans hC h3, _, h2, a, n, c, rfl, rfl⟩
      rintro _ _ ⟨a9, n9, c9, rfl, rfl⟩
      simp only [Act.put, List.setIfInBounds_toArray, List.set_cons_zero, List.set_cons_succ]
      refine k_val (.agg (RW.bcl (.slice a9 n9 c9))) (by apply opN; repeat' (first | apply OpAt.z | apply OpAt.s)) (by rfl) (by rfl) (fun _ W hS => op_build_b rfl rfl) ?_
      simp only [Act.put, List.setIfInBounds_toArray, List.set_cons_zero, List.set_cons_succ]
      refine k_step (fun K' u => u = undef ∧ K' = fun W => KE (.slice a9 n9 c9) (([] ++ L.drop kn) ++ L.take kn) b7 W) (by apply opN; repeat' (first | apply OpAt.z | apply OpAt.s)) (by rfl) (by rfl) (by rfl) (fun W hC hK => ?_) ?_
      · rw [op_store_b rfl rfl rfl rfl (hK.2 _ rfl).2]
        exact ⟨belowSetRow hC (hK.2 _ rfl).1 _, _, ke_of hK, rfl, rfl⟩
      rintro _ _ ⟨rfl, rfl⟩
      simp only [Act.put]
      refine k_nil ?_
      intro W hC hK
      go_wp2
      go_meet
      exact ⟨_, _, rfl, hK, hC⟩
  · refine k_one (fun K' u => ∃ b, u = .pointer (some ⟨b, 0, none⟩) ∧ K' = KB n0 b) (by apply opN; repeat' (first | apply OpAt.z | apply OpAt.s)) (by rfl) (by rfl) (by rfl) (fun W hC hK => ?_) ?_
    · rw [op_alloc_b rfl]
      exact ⟨Below.alloc hC (hn0.out ▸ Below.size hC) _, _, kb_al (hn0.out ▸ Below.size hC), W.heap.size, rfl, rfl⟩
    rintro _ _ ⟨b10, rfl, rfl⟩
    simp only [Act.put, List.setIfInBounds_toArray, List.set_cons_zero, List.set_cons_succ]
    refine k_step (fun K' u => ∃ g, u = .slice (some ⟨g, 0, none⟩) 0 0 ∧ K' = KK n0 u [] (some b10)) (by apply opN; repeat' (first | apply OpAt.z | apply OpAt.s)) (by rfl) (by rfl) (by rfl) (fun W hC hK => ?_) ?_
    · rw [op_mt rfl]
      exact ⟨Below.alloc hC (hn0.out ▸ Below.size hC) _, _, kk_mt2 hK (hn0.out ▸ Below.size hC), W.heap.size, rfl, rfl⟩
    rintro _ _ ⟨g11, rfl, rfl⟩
    simp only [Act.put, List.setIfInBounds_toArray, List.set_cons_zero, List.set_cons_succ]
    refine k_step (fun K' u => ∃ a n c, u = .slice a n c ∧ K' = KK n0 u ([] ++ L.drop kn) (some b10)) (by apply opN; repeat' (first | apply OpAt.z | apply OpAt.s)) (by rfl) (by rfl) (by rfl) (fun W hC hK => ?_) ?_
    · obtain ⟨a, n, c, W', h1, h2, h3⟩ := kk_app hK (hn0.out ▸ Below.size hC) (hloc.out W hC).1 (by simp only [List.length_nil, List.length_drop]; have := hNH.out; omega) 22
      rw [op_app rfl rfl rfl h1]
      exact ⟨Below.trans hC h3, _, h2, a, n, c, rfl, rfl⟩
    rintro _ _ ⟨a12, n12, c12, rfl, rfl⟩
    simp only [Act.put, List.setIfInBounds_toArray, List.set_cons_zero, List.set_cons_succ]
    refine k_step (fun K' u => ∃ a n c, u = .slice a n c ∧ K' = KK n0 u (([] ++ L.drop kn) ++ L.take kn) (some b10)) (by apply opN; repeat' (first | apply OpAt.z | apply OpAt.s)) (by rfl) (by rfl) (by rfl) (fun W hC hK => ?_) ?_
    · obtain ⟨a, n, c, W', h1, h2, h3⟩ := kk_app hK (hn0.out ▸ Below.size hC) (hloc.out W hC).2 (by simp only [List.length_append, List.length_nil, List.length_drop, List.length_take]; have := hNH.out; omega) 22
      rw [op_app rfl rfl rfl h1]
      exact ⟨Below.trans hC h3, _, h2, a, n, c, rfl, rfl⟩
    rintro _ _ ⟨a13, n13, c13, rfl, rfl⟩
    simp only [Act.put, List.setIfInBounds_toArray, List.set_cons_zero, List.set_cons_succ]
    refine k_val (.agg (RW.bcl (.slice a13 n13 c13))) (by apply opN; repeat' (first | apply OpAt.z | apply OpAt.s)) (by rfl) (by rfl) (fun _ W hS => op_build_b rfl rfl) ?_
    simp only [Act.put, List.setIfInBounds_toArray, List.set_cons_zero, List.set_cons_succ]
    refine k_step (fun K' u => u = undef ∧ K' = fun W => KE (.slice a13 n13 c13) (([] ++ L.drop kn) ++ L.take kn) b10 W) (by apply opN; repeat' (first | apply OpAt.z | apply OpAt.s)) (by rfl) (by rfl) (by rfl) (fun W hC hK => ?_) ?_
    · rw [op_store_b rfl rfl rfl rfl (hK.2 _ rfl).2]
      exact ⟨belowSetRow hC (hK.2 _ rfl).1 _, _, ke_of hK, rfl, rfl⟩
    rintro _ _ ⟨rfl, rfl⟩
    simp only [Act.put]
    refine k_nil ?_
    intro W hC hK
    go_wp2
    go_meet
    exact ⟨_, _, rfl, hK, hC⟩
end Go.Proofs.Ytnkdpfkmellpcaa

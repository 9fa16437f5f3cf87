/-
  Package royaltyref12: Claims, Of: what they return; only new memory is written.
-/
import Derived.Test.YtnkdpfkmellpcaaSp22
namespace Go.Proofs.Ytnkdpfkmellpcaa
open Go.RowKit
attribute [local go_sem ↓] ldRow_fact
set_option maxRecDepth 10000 in
set_option maxHeartbeats 2000000 in
theorem rclaims_any (bs : Array Value) (v : Value) (fs : List RW.Fc) (r ro t p : Int) (hbs : bs[2]? = some v) (hl : fs.length ≤ 400000) (w : World) (hv : FactsV w v fs) :
    Calls Try.prog 15 #[.agg bs, .int .i64 r, .int .i64 ro, .int .i64 t, .int .i64 p] w fun e w' => (∃ v', e = .returned v' ∧ OwnP w' w.heap.size v' (RW.claimsL r ro t p (fs.map (·.1)))) ∧ Below w.heap.size w w' := by
  obtain ⟨a, ca, rfl, _, ha⟩ := hv
  have haH := hide ha
  obtain ⟨n, hn⟩ : ∃ n, n = fs.length := ⟨_, rfl⟩
  rw [← hn] at hl hbs
  have hnH := hide hn
  have c2 : (w.alloc (.cells bs 25)).cell? ⟨w.heap.size, 2, none⟩ = some (.slice a n ca) := by rw [cellAt (newAt rfl)]; exact hbs
  have hB0 := hide ((Below.refl w.heap.size w).alloc (Nat.le_refl _) (.cells bs 25))
  clear ha hn hbs
  go_enter Try.func15, Try.ntmps15
  go_upto_region 1 with fail
  refine gen_w (fun W => W.cell? ⟨w.heap.size, 2, none⟩ = some (.slice a n ca) ∧ Below w.heap.size w W ∧ w.heap.size < W.heap.size) ⟨c2, hB0.out, by simp⟩ ?_
  clear c2 hB0
  obtain ⟨rb, hrb⟩ : ∃ b, b = w.heap.size := ⟨_, rfl⟩
  rw [← hrb]
  rintro w1 ⟨c2, hB1, hlt1⟩
  have hB1H := hide hB1
  have hlt1H := hide hlt1
  have hrbH := hide hrb
  have hc2H := hide c2
  clear hB1 hlt1 hrb
  go_wp2
  go_loopw [11, 12] (fun z i wr => ∃ j : Nat, i = .int .i64 j ∧ j ≤ n ∧ Hid (OwnP wr (rb + 1) z (RW.claimsL r ro t p ((fs.take j).map (·.1))) ∧ Below (rb + 1) w1 wr)) (fun _ i _ => n - (intOf i).toNat)
  case atStart => exact ⟨0, rfl, Nat.zero_le _, World.ownsRow_nil _ _ _ _, Below.refl _ _⟩
  case round =>
    obtain ⟨j, rfl, hjn, hP⟩ := hrel
    obtain ⟨cl, hcl⟩ : ∃ cl, cl = RW.claimsL r ro t p ((fs.take j).map (·.1)) := ⟨_, rfl⟩
    have hclH := hide hcl
    rw [← hcl] at hP
    have hcll := hide (show cl.length ≤ 400000 by
      have := RW.claims_len r ro t p ((fs.take j).map (·.1))
      rw [List.length_map, List.length_take, ← hcl] at this
      omega)
    obtain ⟨az, cz, rfl⟩ := hP.out.1.form
    obtain ⟨nz, hnz⟩ : ∃ n, n = cl.length := ⟨_, rfl⟩
    rw [← hnz] at hP ⊢
    have c3 : wr.cell? ⟨rb, 2, none⟩ = some (.slice a n ca) := by
      rw [← c2]
      unfold World.cell?
      rw [hP.out.2.block rb (Nat.lt_succ_self _)]
    clear hcl hnz c2
    by_cases hlt : j < n
    · obtain ⟨x, hx⟩ : ∃ x, fs[j]? = some x := ⟨_, List.getElem?_eq_getElem (by rw [← hnH.out]; exact hlt)⟩
      have hstep := hide (show RW.claimsL r ro t p ((fs.take (j + 1)).map (·.1)) = RW.stepC r ro t p cl x.1 by rw [List.take_add_one, hx, Option.toList_some, List.map_append, List.map_singleton, RW.claimsL_snoc, ← hclH.out])
      have hSnd := hide (show RW.Sound cl by rw [hclH.out]; exact RW.claims_sound _ _ _ _ _)
      obtain ⟨b, o, rfl, hb, hc⟩ := haH.out.resolve_left (by rintro rfl; have := hnH.out; simp at this; omega)
      have hBw : Below rb w wr := hB1H.out.trans (hP.out.2.mono (Nat.le_succ _))
      have hrg : wr.rangeAt b (o + j * 18) (RW.fce x) := fun i u hu => (World.cell?_of_block (a := ⟨b, o + j * 18 + i, none⟩) (hBw.block _ (by rw [hrbH.out]; exact hb))).trans (hc j x hx i u hu)
      have hps := fact_size x
      have hone := fact_one x
      obtain ⟨X, hX⟩ : ∃ X, X = (RW.fce x).toArray := ⟨_, rfl⟩
      have hXH := hide hX
      obtain ⟨bf, hbf⟩ : ∃ b, b = wr.heap.size := ⟨_, rfl⟩
      have hgetH := hide (show ∀ i, i < 17 → X[i]? = some (.int .i64 (x.1 i)) from fun i hi => by rw [hX]; exact fc_get x.1 x.2 i hi)
      have hg0 := hide (show (wr.alloc (.cells X 43)).heap[bf]? = some (.cells X 43 (0, 0)) from newAt hbf)
      have hA := hide ((Below.refl wr.heap.size wr).alloc (Nat.le_refl _) (.cells X 43))
      have hszr := hide (show rb + 1 ≤ wr.heap.size from Nat.le_trans hlt1H.out hP.out.2.size)
      have hI := hide (fun W => ineffect_any x.1 x.2 r ro t p W)
      have hXc : RW.fcells x.1 x.2 = X := hX.symm
      rw [hXc] at hI
      obtain ⟨q, hq⟩ : ∃ q, q = RW.effB x.1 r ro t p := ⟨_, rfl⟩
      rw [← hq] at hI
      have hqH := hide hq
      have hbfH := hide hbf
      clear hb hc hx hXc hbf hq hBw
      go_upto_region 6 with (first
        | (refine wpList_load_mid rfl 43 (.tmp 24) rfl b (o + j * 18) rfl (RW.fce x) _ hrg Try.underlying43 rfl hps ?_)
        | (refine wpListStoreNew rfl 43 (.tmp 13) (.tmp 25) rfl (RW.fce x).toArray rfl rfl 43 _ hps rfl (fact_one x) ?_))
      rw [← hXH.out, ← hbfH.out]
      refine gen_w (fun W => W.heap[bf]? = some (.cells X 43 (0, 0)) ∧ OwnP W (rb + 1) (.slice az nz cz) cl ∧ Below (rb + 1) w1 W) ⟨hg0.out, own_next hP.out.1 hA.out, hP.out.2.trans (hA.out.mono hszr.out)⟩ ?_
      clear hX hg0 hA hrg hP c3 hps hone
      rintro w5 ⟨hg5, hO5, hB5⟩
      have hld := fact_ld (x := x) (W := w5) (g := bf) (by rw [← hXH.out]; exact hg5)
      rw [← hXH.out] at hld
      have hg5H := hide hg5
      have hO5H := hide hO5
      have hB5H := hide hB5
      clear hg5 hO5 hB5
      cases q
      · go_wp2_with (go_at_call 31; refine (hI.out _).mono ?_; rintro e w6 ⟨rfl, hB6⟩; have hO6H := hide (own_next hO5H.out hB6); have hB6H := hide (hB5H.out.trans (hB6.mono (Nat.le_trans hlt1H.out hB5H.out.size))); clear hB6)
        go_roundw
        case rel => exact ⟨j + 1, by go_num, by omega, by rw [hstep.out, RW.stepC, ← hqH.out, if_neg Bool.false_ne_true]; exact hO6H.out, hB6H.out⟩
        case measure => simp [intOf]; omega
      · have hs14 := RW.eff_share hqH.out.symm
        have hAd := hide (fun W (h : PartsV W (.slice az nz cz) cl) => radd_any (.slice az nz cz) cl (x.1 9) (x.1 14) hcll.out hSnd.out hs14.1 hs14.2 W h)
        clear hs14
        go_wp2_with (first
          | (go_at_call 31; refine (hI.out _).mono ?_; rintro e w6 ⟨rfl, hB6⟩; have hg6 := (hB6.block bf (Array.getElem?_eq_some_iff.1 hg5H.out).1).trans hg5H.out; have c14 := (cellAt hg6 14).trans (hgetH.out 14 (by decide)); have c9 := (cellAt hg6 9).trans (hgetH.out 9 (by decide)); have hO6H := hide (own_next hO5H.out hB6); have hB6H := hide (hB5H.out.trans (hB6.mono (Nat.le_trans hlt1H.out hB5H.out.size))); clear hB6 hg6)
          | (go_at_call 32; refine (hAd.out _ (OwnP.parts hO6H.out)).mono ?_; rintro e w7 ⟨⟨v7, rfl, hv7⟩, hB7⟩; have hv7H := hide (own_base hv7 (Nat.le_trans hlt1H.out hB6H.out.size)); have hB7H := hide (hB6H.out.trans (hB7.mono (Nat.le_trans hlt1H.out hB6H.out.size))); clear hv7 hB7))
        go_roundw
        case rel => exact ⟨j + 1, by go_num, by omega, by rw [hstep.out, RW.stepC, ← hqH.out, if_pos rfl]; exact hv7H.out, hB7H.out⟩
        case measure => simp [intOf]; omega
    · obtain rfl : j = n := by omega
      have hclE := hide (show cl = RW.claimsL r ro t p (fs.map (·.1)) by rw [hclH.out, List.take_of_length_le (by rw [← hnH.out]; exact Nat.le_refl _)])
      have hOz := hide (own_base hP.out.1 (Nat.le_succ rb))
      have hBz := hide (hB1H.out.trans (hP.out.2.mono (Nat.le_succ _)))
      clear hP haH hclH hcll
      go_wp2
      go_ret
      exact ⟨⟨_, rfl, by rw [← hclE.out, ← hrbH.out]; exact hOz.out⟩, by rw [← hrbH.out]; exact hBz.out⟩
set_option maxRecDepth 10000 in
set_option maxHeartbeats 2000000 in
theorem rof_any (bs : Array Value) (v : Value) (fs : List RW.Fc) (r ro t p : Int) (hbz : bs.size = 10) (hbs : bs[2]? = some v) (hl : fs.length ≤ 400000) (w : World) (hv : FactsV w v fs) :
    Calls Try.prog 18 #[.agg bs, .int .i64 r, .int .i64 ro, .int .i64 t, .int .i64 p] w fun e w' => (∃ v', e = .returned (.agg (RW.scl v' (RW.resolve (RW.claimsL r ro t p (fs.map (·.1)))).2.1 (RW.resolve (RW.claimsL r ro t p (fs.map (·.1)))).2.2)) ∧ OwnP w' w.heap.size v' (RW.resolve (RW.claimsL r ro t p (fs.map (·.1)))).1) ∧ Below w.heap.size w w' := by
  obtain ⟨rb, hrb⟩ : ∃ b, b = w.heap.size := ⟨_, rfl⟩
  obtain ⟨W0, hW0⟩ : ∃ W, W = (w.alloc (.cells bs 25)).alloc (.cells #[.slice none 0 0, .int .i64 0, .int .i64 0] 32) := ⟨_, rfl⟩
  have h1 : W0.heap[rb]? = some (.cells bs 25 (0, 0)) := by rw [hW0]; exact (Below.heap_alloc _ _ _ (by simp; omega)).trans (newAt hrb)
  have h2 : W0.heap[rb + 1]? = some (.cells #[.slice none 0 0, .int .i64 0, .int .i64 0] 32 (0, 0)) := by rw [hW0]; exact newAt (by simp; omega)
  have hB0 : Below rb w W0 := by rw [hW0, hrb]; exact ((Below.refl _ w).alloc (Nat.le_refl _) _).alloc (by simp) _
  obtain ⟨cl, hcl⟩ : ∃ cl, cl = RW.claimsL r ro t p (fs.map (·.1)) := ⟨_, rfl⟩
  have hC := rclaims_any bs v fs r ro t p hbs hl W0 (hv.next (hrb ▸ hB0))
  rw [← hcl] at hC ⊢
  have hcln : cl.length ≤ 1000000 := by rw [hcl]; have := RW.claims_len r ro t p (fs.map (·.1)); rw [List.length_map] at this; omega
  have hi0 : (Try.prog.info? 25).map (·.size) = some bs.size := by rw [hbz]; kernel_rfl
  obtain ⟨R, hR⟩ : ∃ R, R = RW.resolve cl := ⟨_, rfl⟩
  have hRs : ∀ v W, PartsV W v cl → Calls Try.prog 21 #[v] W fun e w' => (∃ v', e = .returned (.agg (RW.scl v' R.2.1 R.2.2)) ∧ OwnP w' W.heap.size v' R.1) ∧ Below W.heap.size W w' := fun v W h => by rw [hR]; exact rresolve_any v cl hcln W h
  rw [← hR]
  have hCH := hide hC
  have hRsH := hide hRs
  have hW0H := hide hW0
  have hrbH := hide hrb
  have h2H := hide h2
  have hB0H := hide hB0
  have hlt := hide (Array.getElem?_eq_some_iff.1 h2).1
  clear hC hRs hW0 hv hcl hR hbs h2 hB0 hrb
  go_enter Try.func18, Try.ntmps18
  go_upto_region 1 with fail
  rw [← hW0H.out, ← hrbH.out]
  have hi := fun v => shares_size v R.2.1 R.2.2
  have ho := fun (v : Value) (hv : v.oneCell' = true) => shares_one v R.2.1 R.2.2 hv
  go_wp2_with (first
    | (refine wpList_load_row rfl 25 (.tmp 5) rfl rb rfl 25 bs (0, 0) _ h1 Try.underlying25 rfl hi0 ?_)
    | (go_at_call 15; refine hCH.out.mono ?_; rintro e w2 ⟨⟨v2, rfl, hv2⟩, hB2⟩; have hv2H := hide hv2.parts; have hB2H := hide hB2; clear hv2 hB2)
    | (go_at_call 21; refine (hRsH.out _ _ hv2H.out).mono ?_; rintro e w3 ⟨⟨v3, rfl, hv3⟩, hB3⟩; have hr3 := (hB3.block (rb + 1) (Nat.lt_of_lt_of_le hlt.out hB2H.out.size)).trans ((hB2H.out.block _ hlt.out).trans h2H.out); have hv3H := hide hv3; have hB3H := hide hB3; clear hv3 hB3)
    | (refine wpList_store_row rfl 32 (.tmp 10) (.tmp 17) rfl (rb + 1) (RW.scl v3 R.2.1 R.2.2) rfl rfl 32 _ hr3 (hi _) rfl (ho _ hv3H.out.parts.one) ?_))
  have hB := hB0H.out.trans ((hB2H.out.mono (by have := hlt.out; omega)).trans (hB3H.out.mono (by have := hlt.out; have := hB2H.out.size; omega)))
  refine bodyPost_ret (results_cell_row rfl _ _ (rb + 1) 32 (RW.scl v3 R.2.1 R.2.2) (0, 0) _ rfl (setRow_heap _ _ _ _ _ _ hr3) Try.underlying32 rfl (hi _)) rfl ⟨⟨v3, rfl, ?_⟩, hrbH.out ▸ belowSetRow hB (Nat.le_succ _) _⟩
  exact own_base (own_setRow hv3H.out (rb + 1) (Nat.lt_of_lt_of_le hlt.out hB2H.out.size) _) (by have := hlt.out; have := hB2H.out.size; have := hrbH.out; omega)
end Go.Proofs.Ytnkdpfkmellpcaa

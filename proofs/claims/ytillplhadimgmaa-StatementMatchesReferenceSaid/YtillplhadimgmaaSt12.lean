/-
  Package statement: the closures of Of and All, numbers with them: what they return; only new memory is written.
-/
import Derived.Test.YtillplhadimgmaaSt6
import Derived.Test.YtillplhadimgmaaStA
namespace Go.Proofs.Ytillplhadimgmaa
open Go.RowKit RG
set_option maxRecDepth 10000 in
theorem ofc_any (bh : Nat) (h : Int) (r : RW.Rw) (w : World) (hb : bh < w.heap.size) (hc : w.cell? ⟨bh, 0, none⟩ = some (.int .i64 h)) :
    Calls Try.prog 27 #[.agg (RW.rwl r).toArray, .pointer (some ⟨bh, 0, none⟩)] w fun e w' => e = .returned (.tuple #[.int .i64 (r 1), .bool (decide (r 0 = h))]) ∧ Below w.heap.size w w' := by
  obtain ⟨B, hB⟩ : ∃ B, B = w.heap.size := ⟨_, rfl⟩
  rw [← hB]
  obtain ⟨q, hq⟩ : ∃ q, q = decide (r 0 = h) := ⟨_, rfl⟩
  obtain ⟨x0, h0⟩ : ∃ x, x = r 0 := ⟨_, rfl⟩
  obtain ⟨x1, h1⟩ : ∃ x, x = r 1 := ⟨_, rfl⟩
  rw [← hq, ← h1]
  have hqH := hide (h0 ▸ hq)
  have h0H := hide h0
  have h1H := hide h1
  clear hq h0 h1
  have hA := hide (alloc_bel (Below.refl w.heap.size w) (Nat.le_refl _) (.cells (RW.rwl r).toArray 57))
  have hg := hide (show (w.alloc (.cells (RW.rwl r).toArray 57)).heap[B]? = some (.cells (RW.rwl r).toArray 57 (0, 0)) from newAt hB)
  have hcH := hide hc
  have hbH := hide (show bh < w.heap.size from hb)
  have hBH := hide hB
  rw [← hB] at hA
  clear hc hb
  unfold RW.rwl at hA hg ⊢
  go_enter Try.func27, Try.ntmps27
  go_upto_region 1 with fail
  rw [← hB]
  refine gen_w (fun W => W.heap[B]? = some (.cells #[.int .i64 (r 0), .int .i64 (r 1), .int .i64 (r 2), .int .i64 (r 3), .int .i64 (r 4), .int .i64 (r 5), .int .i64 (r 6), .int .i64 (r 7), .int .i64 (r 8), .int .i64 (r 9), .int .i64 (r 10), .int .i64 (r 11)] 57 (0, 0)) ∧ Below B w W) ⟨hg.out, hA.out⟩ ?_
  clear hg hA hB
  rintro w1 ⟨g1, g2⟩
  have e0 : w1.cell? ⟨B, 0, none⟩ = some (.int .i64 (r 0)) := cellAt g1 0
  have e1 : w1.cell? ⟨B, 1, none⟩ = some (.int .i64 (r 1)) := cellAt g1 1
  have eh : w1.cell? ⟨bh, 0, none⟩ = some (.int .i64 h) := (World.cell?_of_block (a := ⟨bh, 0, none⟩) (g2.block _ (by rw [hBH.out]; exact hbH.out))).trans hcH.out
  have hW := hide (fun n => (show Below B w (w1.drewN n) from ⟨g2.os, g2.tape, g2.output, g2.size, g2.block⟩))
  clear g1 g2
  rw [← h0H.out] at e0
  rw [← h1H.out] at e1
  by_cases g : x0 = h
  · have d := hide (show q = true by rw [hqH.out]; exact decide_eq_true g)
    subst g
    go_quiet (fail)
    go_wp2
    go_ret2
    exact ⟨by first | (rw [d.out] <;> rfl) | (rw [d.out]; simp), hW.out _⟩
  · have d := hide (show q = false by rw [hqH.out]; exact decide_eq_false g)
    go_quiet (fail)
    go_wp2
    go_ret2
    exact ⟨by first | (rw [d.out] <;> rfl) | (rw [d.out]; simp [g]), hW.out _⟩
theorem allc_any (r : RW.Rw) (w : World) :
    Calls Try.prog 32 #[.agg (RW.rwl r).toArray] w fun e w' => e = .returned (.tuple #[.int .i64 (r 0), .bool true]) ∧ Below w.heap.size w w' := by
  obtain ⟨B, hB⟩ : ∃ B, B = w.heap.size := ⟨_, rfl⟩
  rw [← hB]
  have hA := hide (alloc_bel (Below.refl w.heap.size w) (Nat.le_refl _) (.cells (RW.rwl r).toArray 57))
  have hg := hide (show (w.alloc (.cells (RW.rwl r).toArray 57)).heap[B]? = some (.cells (RW.rwl r).toArray 57 (0, 0)) from newAt hB)
  rw [← hB] at hA
  unfold RW.rwl at hA hg ⊢
  go_enter Try.func32, Try.ntmps32
  go_upto_region 1 with fail
  rw [← hB]
  refine gen_w (fun W => W.heap[B]? = some (.cells #[.int .i64 (r 0), .int .i64 (r 1), .int .i64 (r 2), .int .i64 (r 3), .int .i64 (r 4), .int .i64 (r 5), .int .i64 (r 6), .int .i64 (r 7), .int .i64 (r 8), .int .i64 (r 9), .int .i64 (r 10), .int .i64 (r 11)] 57 (0, 0)) ∧ Below B w W) ⟨hg.out, hA.out⟩ ?_
  clear hg hA hB
  rintro w1 ⟨g1, g2⟩
  have e0 : w1.cell? ⟨B, 0, none⟩ = some (.int .i64 (r 0)) := cellAt g1 0
  have hW := hide g2
  clear g1 g2
  go_wp2
  go_ret2
  exact ⟨rfl, hW.out⟩
/-- the numbers that a closure takes of rows -/
def RW.nums (num : RW.Rw → Int) (keep : RW.Rw → Bool) (l : List RW.Rw) : List Int := (l.filter keep).map num
theorem RW.nums_snoc {num : RW.Rw → Int} {keep : RW.Rw → Bool} {l : List RW.Rw} {x : RW.Rw} : RW.nums num keep (l ++ [x]) = RW.nums num keep l ++ (if keep x = true then [num x] else []) := by
  unfold RW.nums
  rw [List.filter_append, List.map_append]
  congr 1
  cases h : keep x
  · rw [List.filter_cons_of_neg (by rw [h]; simp)]
    simp
  · rw [List.filter_cons_of_pos h]
    simp
theorem RW.nums_len (num : RW.Rw → Int) (keep : RW.Rw → Bool) (l : List RW.Rw) : (RW.nums num keep l).length ≤ l.length := by
  unfold RW.nums
  rw [List.length_map]
  exact List.length_filter_le _ _
set_option maxRecDepth 10000 in
set_option maxHeartbeats 4000000 in
theorem numbers_any (fk : Nat) (caps : Array Value) (num : RW.Rw → Int) (keep : RW.Rw → Bool) (hcf : ∀ (args : Array Value) (W : World), (callFunc fk args).run Try.prog W = .ok (.enter fk args) W)
    (v u : Value) (l m : List RW.Rw) (hl : l.length ≤ 100) (hm : m.length ≤ 100) (bl : Nat) (w : World) (hv : RwsV w v l) (hu : RwsV w u m) (hb : w.heap[bl]? = some (.cells #[v, u] 23 (0, 0)))
    (hf : ∀ (r : RW.Rw) (W : World), Below w.heap.size w W → Calls Try.prog fk (#[.agg (RW.rwl r).toArray] ++ caps) W fun e W' => e = .returned (.tuple #[.int .i64 (num r), .bool (keep r)]) ∧ Below W.heap.size W W') :
    Calls Try.prog 26 #[.func (.func fk) #[] caps, .slice (some ⟨bl, 0, none⟩) 2 2] w fun e w' => ∃ q, e = .returned q ∧ IntsO w' w.heap.size q (RW.asc (RW.nums num keep (l ++ m))) ∧ Below w.heap.size w w' := by
  obtain ⟨B, hB⟩ : ∃ B, B = w.heap.size := ⟨_, rfl⟩
  have hvH := hide hv
  have huH := hide hu
  have hbH := hide (show bl < w.heap.size from (Array.getElem?_eq_some_iff.1 hb).1)
  have hb0 := hide (show w.cell? ⟨bl, 0, none⟩ = some v from cellAt hb 0)
  have hb1 := hide (show w.cell? ⟨bl, 1, none⟩ = some u from cellAt hb 1)
  have hBH := hide hB
  have hfH := hide hf
  have hlH := hide hl
  have hmH := hide hm
  have hsz := hide (fun W (h : Below B w W) => (show B ≤ W.heap.size by rw [hB]; exact hB ▸ h.size))
  rw [← hB]
  clear hv hu hb hB hf hl hm
  go_enter Try.func26, Try.ntmps26
  go_wp2
  go_loopw [5, 14] (fun o i wr => ∃ j : Nat, i = .int .i64 j ∧ j ≤ 2 ∧ Hid (IntsO wr B o (RW.nums num keep (([l, m].take j).flatten)) ∧ Below B w wr)) (fun _ i _ => 2 - (intOf i).toNat)
  case atStart => exact ⟨0, rfl, by omega, IntsO.nil _ _, by rw [hBH.out]; exact Below.refl _ _⟩
  case round =>
    obtain ⟨j, rfl, hj, hQ⟩ := hrel
    obtain ⟨wo, hwo⟩ : ∃ wo, wo = wr := ⟨_, rfl⟩
    subst hwo
    have hO := hide hQ.out.1
    have hBw := hide hQ.out.2
    clear hQ
    by_cases hlt : j < 2
    · obtain ⟨A, hA⟩ : ∃ A, A = ([l, m].take j).flatten := ⟨_, rfl⟩
      obtain ⟨x, t, hx, ht, htx, hxl, hAl⟩ : ∃ (x : Value) (t : List RW.Rw), w.cell? ⟨bl, j, none⟩ = some x ∧ RwsV w x t ∧ ([l, m].take (j + 1)).flatten = A ++ t ∧ t.length ≤ 100 ∧ A.length ≤ 100 := by
        rcases j with _ | _ | j
        · exact ⟨v, l, hb0.out, hvH.out, by rw [hA]; simp, hlH.out, by rw [hA]; simp⟩
        · exact ⟨u, m, hb1.out, huH.out, by rw [hA]; simp, hmH.out, by rw [hA]; simp [hlH.out]⟩
        · omega
      rw [← hA] at hO
      have e0 : wo.cell? ⟨bl, 0 + j, none⟩ = some x := by rw [Nat.zero_add]; exact (World.cell?_of_block (a := ⟨bl, j, none⟩) (hBw.out.block _ (by rw [hBH.out]; exact hbH.out))).trans hx
      have htxH := hide htx
      have hAlH := hide hAl
      have htH := hide ht
      obtain ⟨a, ca, rfl, _, ha⟩ := ht
      obtain ⟨n, hn⟩ : ∃ n, n = t.length := ⟨_, rfl⟩
      have hnH := hide hn
      have haH := hide ha
      rw [← hn] at e0 hxl
      clear hx htx hA hAl ha hn
      rw [Nat.zero_add] at e0
      go_wp2
      rw [show decide ((j : Int) < 2) = true from decide_eq_true (by omega)]
      go_loopw [5, 20] (fun o i wr => ∃ k : Nat, i = .int .i64 k ∧ k ≤ n ∧ Hid (IntsO wr B o (RW.nums num keep (A ++ t.take k)) ∧ Below B w wr)) (fun _ i _ => n - (intOf i).toNat)
      case atStart => exact ⟨0, rfl, by omega, by rw [List.take_zero, List.append_nil]; exact hO.out, hBw.out⟩
      case round =>
        obtain ⟨k, rfl, hk, hQ⟩ := hrel
        obtain ⟨wi, hwi⟩ : ∃ wi, wi = wr := ⟨_, rfl⟩
        subst hwi
        have hOi := hide hQ.out.1
        have hBi := hide hQ.out.2
        clear hQ
        by_cases hkn : k < n
        · obtain ⟨r, hr⟩ : ∃ r, t[k]? = some r := ⟨_, List.getElem?_eq_getElem (by rw [← hnH.out]; exact hkn)⟩
          obtain ⟨b, o, rfl, hbb, hc⟩ := haH.out.resolve_left (by rintro rfl; simp at hr)
          have hrg : wi.rangeAt b (o + k * 12) (RW.rwl r) := fun i u hu => (World.cell?_of_block (a := ⟨b, o + k * 12 + i, none⟩) (hBi.out.block _ (by rw [hBH.out]; exact hbb))).trans (hc k r hr i u hu)
          have hps := rw_size r
          have hpo := rw_one r
          have htk := hide (show A ++ t.take (k + 1) = (A ++ t.take k) ++ [r] by rw [List.take_add_one, hr, Option.toList_some, List.append_assoc])
          have hlen := hide (show (RW.nums num keep (A ++ t.take k)).length ≤ 1000 by
            have h1 := RW.nums_len num keep (A ++ t.take k)
            rw [List.length_append, List.length_take] at h1
            have := hAlH.out
            omega)
          obtain ⟨bx, hbx⟩ : ∃ b, b = wi.heap.size := ⟨_, rfl⟩
          have hg0 := hide (show (wi.alloc (.cells (RW.rwl r).toArray 57)).heap[bx]? = some (.cells (RW.rwl r).toArray 57 (0, 0)) from newAt hbx)
          have hbxH := hide hbx
          have hA1 := hide (alloc_bel (Below.refl wi.heap.size wi) (Nat.le_refl _) (.cells (RW.rwl r).toArray 57))
          clear hbx hr hbb hc
          go_upto_region 8 with (first
            | (refine wpList_load_mid rfl 57 (.tmp 22) rfl b (o + k * 12) rfl (RW.rwl r) _ hrg Try.underlying57 rfl hps ?_)
            | (refine wpListStoreNew rfl 57 (.tmp 9) (.tmp 23) rfl (RW.rwl r).toArray rfl rfl 57 _ hps rfl hpo ?_))
          refine gen_w (fun W => W.heap[bx]? = some (.cells (RW.rwl r).toArray 57 (0, 0)) ∧ Below B w W ∧ IntsO W B _ (RW.nums num keep (A ++ t.take k))) ⟨hg0.out, hBi.out.trans (hA1.out.mono (hsz.out _ hBi.out)), hOi.out.next hA1.out⟩ ?_
          rw [← hbxH.out]
          clear hg0 hBi hbxH hrg hpo hA1 hOi
          rintro w5 ⟨g1, g2, g3⟩
          have hrow : w5.rangeAt bx 0 (RW.rwl r) := fun i u hu => by rw [Nat.zero_add]; exact (cellAt g1 i).trans (by rw [List.getElem?_toArray]; exact hu)
          have hg2 := hide g2
          have hg3 := hide g3
          clear g1 g2 g3
          have hcall := hide (hfH.out r w5 (hBH.out ▸ hg2.out))
          obtain ⟨xn, hxn⟩ : ∃ z, z = num r := ⟨_, rfl⟩
          obtain ⟨xk, hxk⟩ : ∃ z, z = keep r := ⟨_, rfl⟩
          have hsn := hide (show RW.nums num keep (A ++ t.take (k + 1)) = RW.nums num keep (A ++ t.take k) ++ (if xk = true then [xn] else []) by rw [htk.out, RW.nums_snoc, hxn, hxk])
          rw [← hxn, ← hxk] at hcall
          clear hxn hxk
          go_upto_region 9 with (first
            | (refine wpList_load_mid rfl 57 (.tmp 9) rfl bx 0 rfl (RW.rwl r) _ hrow Try.underlying57 rfl hps ?_)
            | ((with_reducible refine hcall.out.mono ?_); rintro e w6 ⟨rfl, hB6⟩; have hB6H := hide hB6; clear hB6))
          have hO6 := hide (hg3.out.next hB6H.out)
          have hB6 := hide (hg2.out.trans (hB6H.out.mono (hsz.out _ hg2.out)))
          clear hg2 hg3 hB6H hrow hps
          cases xk
          · go_wp2
            go_roundw
            case rel => exact ⟨k + 1, by go_num, by omega, by rw [hsn.out, if_neg (by decide), List.append_nil]; exact hO6.out, hB6.out⟩
            case measure => simp [intOf]; omega
          · obtain ⟨v8, w8, hrun, hO8, hB8⟩ := hO6.out.appNew xn (by have := hlen.out; omega) (hsz.out _ hB6.out)
            have hO8H := hide hO8
            have hB8H := hide (hB6.out.trans hB8)
            clear hO8 hB8
            go_wp2_with (at_builtin; refine wpList_app_run rfl (.tmp 31) (.tmp 33) rfl rfl rfl hrun ?_)
            go_roundw
            case rel => exact ⟨k + 1, by go_num, by omega, by rw [hsn.out, if_pos rfl]; exact hO8H.out, hB8H.out⟩
            case measure => simp [intOf]; omega
        · obtain rfl : n = k := by omega
          have hO2 := hide (show IntsO wi B _ (RW.nums num keep (([l, m].take (j + 1)).flatten)) by
            rw [htxH.out]
            have := hOi.out
            rwa [List.take_of_length_le (by rw [← hnH.out]; exact Nat.le_refl _)] at this)
          go_wp2
          go_roundw
          case rel => exact ⟨j + 1, by go_num, by omega, hO2.out, hBi.out⟩
          case measure => simp [intOf]; omega
    · obtain rfl : j = 2 := by omega
      have hO2 := hide (show IntsO wo B _ (RW.nums num keep (l ++ m)) by
        have := hO.out
        simpa using this)
      have hlen := hide (show (RW.nums num keep (l ++ m)).length ≤ 1000000 by
        have h1 := RW.nums_len num keep (l ++ m)
        rw [List.length_append] at h1
        have := hlH.out
        have := hmH.out
        omega)
      clear hO
      have hS := hide (sort_own hO2.out hlen.out)
      have hown := hide (fun g (hg : _ = some g) => (own_block hO2.out hg).1)
      go_wp2_with (first
        | (go_at_call 42; refine hS.out.mono ?_; rintro e w2 ⟨⟨_, rfl⟩, hO3, hC3⟩; have hO3H := hide hO3; have hC3H := hide hC3; clear hO3 hC3)
        | (go_at_call 43; refine (compact_own hO3H.out (by rw [List.length_mergeSort]; exact hlen.out)).mono ?_; rintro e w3 ⟨v3, rfl, hO4, hv4, hC4⟩; have hO4H := hide hO4; have hC4H := hide hC4; clear hO4 hC4 hv4))
      go_ret
      refine ⟨_, rfl, ?_, ?_⟩
      · rw [← RW.compact_asc]; exact hO4H.out
      · have h1 := hC3H.out.below (B := B) (fun k hk => hown.out k hk) (hsz.out _ hBw.out)
        exact (hBw.out.trans h1).trans (hC4H.out.below (B := B) (fun k hk => hown.out k hk) (Nat.le_trans (hsz.out _ hBw.out) hC3H.out.size))
end Go.Proofs.Ytillplhadimgmaa

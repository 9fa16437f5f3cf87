/-
  Package statement: All: what it returns; only new memory is written.
-/
import Derived.Test.YtillplhadimgmaaSt14
namespace Go.Proofs.Ytillplhadimgmaa
open Go.RowKit RG
theorem cf_of : ∀ args w, (callFunc 12 args).run Try.prog w = .ok (.enter 12 args) w := fun args w => by go_simp
theorem cf_rof : ∀ args w, (callFunc 14 args).run Try.prog w = .ok (.enter 14 args) w := fun args w => by go_simp
/-- two books in blocks B and B + 1 -/
structure BkW (W : World) (B : Nat) (w : World) (zb za : Int) (vb va : Value) : Prop where
  b0 : W.heap[B]? = some (.cells (bks zb vb) 28 (0, 0))
  b1 : W.heap[B + 1]? = some (.cells (bks za va) 28 (0, 0))
  bel : Below B w W
theorem BkW.next {W W' : World} {B n : Nat} {w : World} {zb za : Int} {vb va : Value} (hO : BkW W B w zb za vb va) (hB : Below n W W') (hn : B + 1 < n) : BkW W' B w zb za vb va :=
  ⟨(hB.block _ (by omega)).trans hO.b0, (hB.block _ (by omega)).trans hO.b1, hO.bel.trans (hB.mono (by omega))⟩
theorem BkW.lt {W : World} {B : Nat} {w : World} {zb za : Int} {vb va : Value} (hO : BkW W B w zb za vb va) : B + 1 < W.heap.size := (Array.getElem?_eq_some_iff.1 hO.b1).1
theorem BkW.start (w : World) (zb za : Int) (vb va : Value) : BkW ((w.alloc (.cells (bks zb vb) 28)).alloc (.cells (bks za va) 28)) w.heap.size w zb za vb va := by
  obtain ⟨W1, h1⟩ : ∃ X, X = w.alloc (.cells (bks zb vb) 28) := ⟨_, rfl⟩
  rw [← h1]
  have s1 : W1.heap.size = w.heap.size + 1 := by rw [h1, alloc_size]
  have k1 : W1.heap[w.heap.size]? = some (.cells (bks zb vb) 28 (0, 0)) := by rw [h1]; exact alloc_at1 _ _
  have b1 := alloc_bel (Below.refl w.heap.size w) (Nat.le_refl _) (.cells (bks zb vb) 28)
  rw [← h1] at b1
  exact ⟨alloc_old _ _ k1, by rw [← s1]; exact alloc_at1 _ _, alloc_bel b1 (Nat.le_refl _) _⟩
namespace RW
/-- the statements of the first holders -/
def stsP (b a : List Rw) (c : Int) (hs : List Int) : List St := (hs.map (stOf b a c)).filter fun s => decide (0 < s.2.2.length)
theorem stsP_snoc (b a : List Rw) (c : Int) (hs : List Int) (h : Int) : stsP b a c (hs ++ [h]) = stsP b a c hs ++ (if 0 < (lns b a h).length then [(h, c, lns b a h)] else []) := by
  unfold stsP
  rw [List.map_append, List.filter_append]
  congr 1
  by_cases e : 0 < (lns b a h).length
  · rw [if_pos e, List.map_cons, List.map_nil, List.filter_cons, show decide (0 < (stOf b a c h).2.2.length) = true from decide_eq_true e, if_pos rfl]
    rfl
  · rw [if_neg e, List.map_cons, List.map_nil, List.filter_cons, show decide (0 < (stOf b a c h).2.2.length) = false from decide_eq_false e, if_neg (by decide)]
    rfl
theorem stsP_len (b a : List Rw) (c : Int) (hs : List Int) : (stsP b a c hs).length ≤ hs.length := by
  unfold stsP
  refine Nat.le_trans (List.length_filter_le _ _) ?_
  rw [List.length_map]
  exact Nat.le_refl _
theorem stAll_P (b a : List Rw) (c : Int) : stsP b a c (hols (b ++ a)) = stAll b a c := rfl
end RW
theorem st_row {W : World} {g : Nat} {n c : Int} {v : Value} (h : W.heap[g]? = some (.cells #[.int .i64 n, .int .i64 c, v] 39 (0, 0))) : W.rangeAt g 0 (stc (n, c, v)) := fun i u hu => by
  rw [Nat.zero_add]
  exact (cellAt h i).trans (by
    rcases i with _ | _ | _ | i
    · exact hu
    · exact hu
    · exact hu
    · simp [stc] at hu)
theorem StsO.base {W : World} {B B' : Nat} {vo : Value} {vs : List SV} {ss : List RW.St} (h : StsO W B vo vs ss) (hb : B' ≤ B) : StsO W B' vo vs ss :=
  ⟨own_base h.row hb, h.len, fun i u s hu hs => ⟨(h.el i u s hu hs).1, (h.el i u s hu hs).2.1, own_base (h.el i u s hu hs).2.2 hb⟩⟩
set_option maxRecDepth 10000 in
set_option maxHeartbeats 4000000 in
theorem all_any (zb za : Int) (vb va : Value) (lb la : List RW.Rw) (hlb : lb.length ≤ 50) (hla : la.length ≤ 50) (hnb : RW.NearR lb) (hna : RW.NearR la) (w : World) (hvb : RwsV w vb lb) (hva : RwsV w va la) :
    Calls Try.prog 18 #[.agg (bks zb vb), .agg (bks za va)] w fun e w' => ∃ v vs, e = .returned v ∧ StsO w' w.heap.size v vs (RW.stAll lb la za) ∧ Below w.heap.size w w' := by
  obtain ⟨B, hB⟩ : ∃ B, B = w.heap.size := ⟨_, rfl⟩
  have hBH := hide hB
  have hvbH := hide (fun W (hW : Below B w W) => hvb.next (hB ▸ hW))
  have hvaH := hide (fun W (hW : Below B w W) => hva.next (hB ▸ hW))
  have hS0 := hide (BkW.start w zb za vb va)
  have hlbH := hide hlb
  have hlaH := hide hla
  have hnbH := hide hnb
  have hnaH := hide hna
  obtain ⟨ab, cb, hvbe, hcbl, _⟩ := hvb
  obtain ⟨aa, ca, hvae, hcal, _⟩ := hva
  obtain ⟨nb, hnbe⟩ : ∃ n, n = lb.length := ⟨_, rfl⟩
  obtain ⟨na, hnae⟩ : ∃ n, n = la.length := ⟨_, rfl⟩
  rw [← hnbe] at hvbe
  rw [← hnae] at hvae
  subst hvbe hvae
  rw [← hB] at hS0 ⊢
  clear hlb hla hnb hna hcbl hcal hnbe hnae
  have hS1 := hide hS0.out
  unfold bks at hS1 ⊢
  go_enter Try.func18, Try.ntmps18
  go_upto_region 2 with fail
  rw [← hB]
  refine gen_w (fun W => BkW W B w zb za (.slice ab nb cb) (.slice aa na ca)) hS0.out ?_
  clear hS0 hS1 hB
  intro w2 hO2
  have e0 : w2.cell? ⟨B, 2, none⟩ = some (.slice ab nb cb) := cellAt hO2.b0 2
  have e1 : w2.cell? ⟨B + 1, 2, none⟩ = some (.slice aa na ca) := cellAt hO2.b1 2
  have hO2H := hide hO2
  have hA5 := hide (alloc_bel (Below.refl w2.heap.size w2) (Nat.le_refl _) (.cells #[.slice ab nb cb, .slice aa na ca] 23))
  have hB2w := hide (show Below B w (w2.alloc (.cells #[.slice ab nb cb, .slice aa na ca] 23)) from hO2.bel.trans (hA5.out.mono (by have := hO2.lt; omega)))
  have hN := hide (numbers_any 32 #[] (fun r => r 0) (fun _ => true) cf_allc (.slice ab nb cb) (.slice aa na ca) lb la (by have := hlbH.out; omega) (by have := hlaH.out; omega) w2.heap.size (w2.alloc (.cells #[.slice ab nb cb, .slice aa na ca] 23)) (hvbH.out _ hB2w.out) (hvaH.out _ hB2w.out) (newAt rfl) (fun r W _ => allc_any r W))
  clear hO2
  obtain ⟨hs, hhs⟩ : ∃ hs, hs = RW.hols (lb ++ la) := ⟨_, rfl⟩
  have hhsl := hide (show hs.length ≤ 100 by rw [hhs]; have h1 := RW.hols_len (lb ++ la); rw [List.length_append] at h1; have := hlbH.out; have := hlaH.out; omega)
  have hhsH := hide hhs
  rw [RW.hols_nums, ← hhs] at hN
  obtain ⟨m, hm⟩ : ∃ m, m = hs.length := ⟨_, rfl⟩
  have hmH := hide hm
  have hm100 : m ≤ 100 := by rw [hm]; exact hhsl.out
  have hN2 := hide (hN.out.mono (fun e w' hh => (show ∃ av cv, e = .returned (.slice av m cv) ∧ RowV 1 encI w' (.slice av m cv) hs ∧ Below (w2.alloc (.cells #[.slice ab nb cb, .slice aa na ca] 23)).heap.size (w2.alloc (.cells #[.slice ab nb cb, .slice aa na ca] 23)) w' from by
    obtain ⟨q, rfl, h1, h2⟩ := hh
    obtain ⟨av, cv, hq⟩ := h1.form
    rw [← hm] at hq
    subst hq
    exact ⟨av, cv, rfl, h1.row, h2⟩)))
  clear hhs hm hN
  go_wp2_with (go_at_call 26; refine hN2.out.mono ?_; rintro e w3 ⟨av, cv, rfl, hI3, hB3⟩; have hI3H := hide hI3; have hB3H := hide hB3; clear hI3 hB3)
  have hB23 := hide (hA5.out.trans (hB3H.out.mono hA5.out.size))
  have hO3 := hide (hO2H.out.next hB23.out hO2H.out.lt)
  have havH := hide (show hs = [] ∨ ∃ b o, av = some ⟨b, o, none⟩ ∧ b < w3.heap.size ∧ ∀ i x, hs[i]? = some x → w3.rangeAt b (o + i * 1) (encI x) from by
    obtain ⟨a', c', he, _, h2⟩ := hI3H.out
    cases he
    exact h2)
  clear hB23 hB3H hN2 hB2w hA5 hO2H e0 e1 hI3H
  obtain ⟨w3s, hw3s⟩ : ∃ n, n = w3.heap.size := ⟨_, rfl⟩
  have hw3sH := hide hw3s
  have hpin := hide (fun W (hW : Below w3s w3 W) j p (hp : hs[j]? = some p) => (show ∃ b o, av = some ⟨b, o, none⟩ ∧ W.cell? ⟨b, o + j, none⟩ = some (.int .i64 p) from by
    obtain ⟨b, o, e, hb, hc⟩ := havH.out.resolve_left (by rintro rfl; simp at hp)
    exact ⟨b, o, e, (World.cell?_of_block (a := ⟨b, o + j, none⟩) (hW.block _ (by rw [hw3s]; exact hb))).trans (ints_cell hc hp)⟩))
  have hlt := hide (show B + 1 < w3s by rw [hw3s]; exact hO3.out.lt)
  have hO4 := hide (fun W (hW : Below w3s w3 W) => hO3.out.next hW hlt.out)
  have hsz := hide (fun W (hW : Below w3s w3 W) => (show w3s ≤ W.heap.size by rw [hw3s]; exact (hw3s ▸ hW).size))
  clear hw3s hO3 havH
  go_loopw [5, 16] (fun o i wr => ∃ (j : Nat) (vs : List SV), i = .int .i64 j ∧ j ≤ m ∧ Hid (StsO wr w3s o vs (RW.stsP lb la za (hs.take j)) ∧ Below w3s w3 wr)) (fun _ i _ => m - (intOf i).toNat)
  case atStart => exact ⟨0, [], rfl, Nat.zero_le _, StsO.nil _ _, by rw [hw3sH.out]; exact Below.refl _ _⟩
  case round =>
    obtain ⟨j, vs, rfl, hj, hQ⟩ := hrel
    obtain ⟨wo, hwo⟩ : ∃ wo, wo = wr := ⟨_, rfl⟩
    subst hwo
    have hS := hide hQ.out.1
    have hBo := hide hQ.out.2
    clear hQ
    by_cases hjm : j < m
    · obtain ⟨h, hp⟩ : ∃ p, hs[j]? = some p := ⟨_, List.getElem?_eq_getElem (by rw [← hmH.out]; exact hjm)⟩
      obtain ⟨b, o, rfl, hcell⟩ := hpin.out wo hBo.out j h hp
      have htk := hide (show hs.take (j + 1) = hs.take j ++ [h] by rw [List.take_add_one, hp]; rfl)
      have hlen := hide (show vs.length ≤ 100000 by
        rw [hS.out.len]
        have h1 := RW.stsP_len lb la za (hs.take j)
        rw [List.length_take] at h1
        have := hhsl.out
        omega)
      obtain ⟨L, hL⟩ : ∃ L, L = RW.lns lb la h := ⟨_, rfl⟩
      have hsn := hide (show RW.stsP lb la za (hs.take (j + 1)) = RW.stsP lb la za (hs.take j) ++ (if 0 < L.length then [(h, za, L)] else []) by rw [htk.out, RW.stsP_snoc, hL])
      have hOo := hide (hO4.out wo hBo.out)
      have hC := hide (of_any zb za h (.slice ab nb cb) (.slice aa na ca) lb la hlbH.out hlaH.out hnbH.out hnaH.out wo (hvbH.out wo hOo.out.bel) (hvaH.out wo hOo.out.bel))
      rw [← hL] at hC
      clear hL
      have hgb := hOo.out.b0
      have hib : (Try.prog.info? 28).map (·.size) = some (bks zb (.slice ab nb cb)).size := bk_size _ _
      have hga := hOo.out.b1
      have hia : (Try.prog.info? 28).map (·.size) = some (bks za (.slice aa na ca)).size := bk_size _ _
      clear hp
      go_upto_region 6 with (first
        | (refine wpList_load_row rfl 28 (.tmp 2) rfl B rfl 28 _ (0, 0) _ hgb Try.underlying28 rfl hib ?_)
        | (refine wpList_load_row rfl 28 (.tmp 3) rfl (B + 1) rfl 28 _ (0, 0) _ hga Try.underlying28 rfl hia ?_)
        | (go_at_call 12; refine hC.out.mono ?_; rintro e w4 ⟨v4', rfl, hL4, hB4⟩; obtain ⟨a4, n4, e4⟩ := lnl_block hL4; subst e4; have hL4H := hide hL4; have hB4H := hide hB4; clear hL4 hB4))
      obtain ⟨g, hg⟩ : ∃ g, g = w4.heap.size := ⟨_, rfl⟩
      have hg5' := hide (show (w4.alloc (.cells #[.int .i64 h, .int .i64 za, .slice a4 L.length n4] 39)).heap[g]? = some (.cells #[.int .i64 h, .int .i64 za, .slice a4 L.length n4] 39 (0, 0)) from newAt hg)
      have hA5 := hide (alloc_bel (Below.refl w4.heap.size w4) (Nat.le_refl _) (.cells #[.int .i64 h, .int .i64 za, .slice a4 L.length n4] 39))
      have hL5' := hide (hL4H.out.next hA5.out)
      have hB5' := hide (hB4H.out.trans (hA5.out.mono hB4H.out.size))
      rw [← hg]
      refine gen_w (fun W => ∃ v4, W.heap[g]? = some (.cells #[.int .i64 h, .int .i64 za, v4] 39 (0, 0)) ∧ LnsO W wo.heap.size v4 L ∧ Below wo.heap.size wo W) ⟨_, hg5'.out, hL5'.out, hB5'.out⟩ ?_
      clear hg5' hA5 hL5' hB5' hg hL4H hB4H hgb hib hga hia hC
      rintro w5 ⟨v4, hg5, hL5, hBw5⟩
      have hBx := hide (hBo.out.trans (hBw5.mono (hsz.out wo hBo.out)))
      have hSx := hide (hS.out.next hBw5)
      have hLx := hide (own_base hL5 (hsz.out wo hBo.out))
      have hg5H := hide hg5
      clear hBo hS hBw5 hL5 hOo hcell
      obtain ⟨a5, n5, hv5⟩ := lnl_block hLx.out
      obtain ⟨q5, hq5⟩ : ∃ q, q = L.length := ⟨_, rfl⟩
      rw [← hq5] at hv5 hsn
      subst hv5
      clear hq5
      have c2 : w5.cell? ⟨g, 2, none⟩ = some (.slice a5 q5 n5) := cellAt hg5 2
      have hrow : w5.rangeAt g 0 (stc (h, za, .slice a5 q5 n5)) := st_row hg5
      have hps := st_size (h, za, .slice a5 q5 n5)
      have hl3 : (stc (h, za, .slice a5 q5 n5)).length = 3 := rfl
      clear hg5
      by_cases hz : 0 < q5
      · obtain ⟨v8, w8, hrun, hS8, hB8⟩ := hSx.out.app (n := h) (c := za) hLx.out hlen.out (hsz.out w5 hBx.out)
        have hS8H := hide hS8
        have hB8H := hide (hBx.out.trans hB8)
        have hsn2 := hide (show RW.stsP lb la za (hs.take (j + 1)) = RW.stsP lb la za (hs.take j) ++ [(h, za, L)] by rw [hsn.out, if_pos hz])
        clear hS8 hB8
        go_wp2_with (first
          | (refine wpList_load_mid rfl 39 (.tmp 8) rfl g 0 rfl (stc (h, za, .slice a5 q5 n5)) _ hrow Try.underlying39 rfl hps ?_)
          | (at_builtin; refine wpList_app_run rfl (.tmp 28) (.tmp 30) rfl rfl rfl hrun ?_))
        go_roundw
        case rel => exact ⟨j + 1, vs ++ [(h, za, .slice a5 q5 n5)], by go_num, by omega, by rw [hsn2.out]; exact hS8H.out, hB8H.out⟩
        case measure => simp [intOf]; omega
      · have hsn2 := hide (show RW.stsP lb la za (hs.take (j + 1)) = RW.stsP lb la za (hs.take j) by rw [hsn.out, if_neg hz, List.append_nil])
        go_wp2
        go_roundw
        case rel => exact ⟨j + 1, vs, by go_num, by omega, by rw [hsn2.out]; exact hSx.out, hBx.out⟩
        case measure => simp [intOf]; omega
    · obtain rfl : m = j := by omega
      have hS2 := hide (show StsO wo w3s _ vs (RW.stAll lb la za) by
        have h1 := hS.out
        rw [List.take_of_length_le (by rw [← hmH.out]; exact Nat.le_refl _), hhsH.out] at h1
        exact h1)
      clear hS
      go_wp2
      go_ret
      have hlt' := hlt.out
      exact ⟨_, vs, rfl, hS2.out.base (by omega), hBH.out ▸ (hO4.out wo hBo.out).bel⟩
end Go.Proofs.Ytillplhadimgmaa

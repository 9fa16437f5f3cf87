/-
  Package royaltylaw19: pick, near: what they return; only new memory is written.
-/
import Derived.Test.YtillplhadimgmaaSt14
import Derived.Great.BuildSlice
namespace Go.Proofs.Ytillplhadimgmaa
open Go.RowKit RG
namespace RW
def pickI (c n : Int) : Int := (if c < 0 then -(c + 1) else c) % n
theorem pickI_bd (c n : Int) (h : 1 ≤ n) : 0 ≤ pickI c n ∧ pickI c n < n := ⟨Int.emod_nonneg _ (by omega), Int.emod_lt_of_pos _ (by omega)⟩
/-- a row whose payment is not far from 0 -/
def nrR (r : Rw) : Rw := fun i => if i = 10 then min (max (r 10) (-1000000000000000)) 2000000000000000 else r i
def nrL (l : List Rw) : List Rw := (l.take 20).map nrR
theorem nrL_near (l : List Rw) : NearR (nrL l) := fun r hr => by
  obtain ⟨q, _, rfl⟩ := List.mem_map.1 hr
  show -2000000000000000 ≤ min (max (q 10) (-1000000000000000)) 2000000000000000 ∧ min (max (q 10) (-1000000000000000)) 2000000000000000 ≤ 2000000000000000
  omega
theorem nrL_len (l : List Rw) : (nrL l).length ≤ 20 := by
  unfold nrL
  rw [List.length_map, List.length_take]
  omega
theorem nrR_set (r : Rw) (x : Int) (hx : x = min (max (r 10) (-1000000000000000)) 2000000000000000) : ((rwl r).toArray.setIfInBounds 10 (.int .i64 x)) = (rwl (nrR r)).toArray := by
  subst hx
  rfl
end RW
theorem pick_any (c n : Int) (hc : -9223372036854775808 ≤ c) (hc2 : c ≤ 9223372036854775807) (h : 1 ≤ n) (hn : n ≤ 9223372036854775807) (w : World) : Calls Try.prog 11 #[.int .i64 c, .int .i64 n] w fun e w' => e = .returned (.int .i64 (RW.pickI c n)) ∧ w = w' := by
  by_cases h0 : c < 0
  · have h1 : 0 ≤ -(c + 1) := by omega
    have e : RW.pickI c n = -(c + 1) % n := by unfold RW.pickI; rw [if_pos h0]
    have eH := hide e
    clear e
    go_enter Try.func11, Try.ntmps11
    go_wp2
    go_ret
    refine ⟨?_, rfl⟩
    rw [eH.out, ← Int.tmod_eq_emod_of_nonneg h1, Int.neg_tmod]
    rfl
  · have e : RW.pickI c n = c % n := by unfold RW.pickI; rw [if_neg h0]
    have eH := hide e
    clear e
    go_enter Try.func11, Try.ntmps11
    go_wp2
    go_ret
    exact ⟨by rw [eH.out]; rfl, rfl⟩
theorem RwsO.next {W W' : World} {B : Nat} {v : Value} {l : List RW.Rw} (h : RwsO W B v l) (hB : Below W.heap.size W W') : RwsO W' B v l := own_keep h fun g hg => hB.block _ (own_block h hg).2.1
theorem RwsO.nil (W : World) (B : Nat) : RwsO W B (.slice none 0 0) [] := ⟨rfl, .inl ⟨rfl, rfl⟩⟩
theorem RwsO.form {W : World} {B : Nat} {v : Value} {l : List RW.Rw} (h : RwsO W B v l) : ∃ a c, v = .slice a l.length c := by
  rcases h.2 with ⟨rfl, h0⟩ | ⟨g, cap, cur, rfl, _⟩
  · exact ⟨none, 0, by rw [h0]⟩
  · exact ⟨_, _, rfl⟩
theorem RwsO.appNew {W : World} {B : Nat} {v : Value} {l : List RW.Rw} (h : RwsO W B v l) (x : RW.Rw) (hl : l.length ≤ 100000) (hB : B ≤ W.heap.size) :
    ∃ v' W', (Builtin.append_ #[23, 23] 23 #[v, .slice (some ⟨W.heap.size, 0, none⟩) 1 1]).run Try.prog (W.alloc (.cells (RW.rwl x).toArray 57)) = .ok v' W' ∧ RwsO W' B v' (l ++ [x]) ∧ Below B W W' := by
  have hA := alloc_bel (Below.refl W.heap.size W) (Nat.le_refl _) (.cells (RW.rwl x).toArray 57)
  have h1 : RwsO (W.alloc (.cells (RW.rwl x).toArray 57)) B v l := h.next hA
  have hy : RwsV (W.alloc (.cells (RW.rwl x).toArray 57)) (.slice (some ⟨W.heap.size, 0, none⟩) 1 1) [x] := by
    have := rows_lit (k := 12) (enc := RW.rwl) W 57 rw_len [x]
    simpa [rowCells] using this
  obtain ⟨v', W', g1, g2, g3⟩ := h1.app (m := [x]) (by simp; omega) (Nat.le_trans hB hA.size) hy
  exact ⟨v', W', g1, g2, (hA.mono hB).trans g3⟩
/-- a slice literal of one row, in a walk -/
theorem wpList_bs_rw {ops : Array Oper} {rest : List Oper} {o : Oper} {a : Act} {w : World} {Q : Exit → Act → World → Prop} (hg : o.guard = none) (x : Operand) (ho : o.op = .buildSlice 23 1 #[(0, x)]) (q : RW.Rw) (hx : a.eval x = .agg (RW.rwl q).toArray)
    (h : wpList Try.prog ops Q rest (a.put o.dst (.slice (some ⟨w.heap.size, 0, none⟩) 1 1)) (w.alloc (.cells (RW.rwl q).toArray 57))) : wpList Try.prog ops Q (o :: rest) a w := by
  obtain ⟨i0, hi, hz0, hz1, hz2⟩ := info_parts rw_info
  refine wpList_buildSlice hg 23 57 1 #[(0, x)] ho (RW.rwl q).toArray i0 _ Try.underlying23 hi hz0 (by rw [hz1]; decide) (by rw [hz1]; decide) ?_ h
  rw [hz1]
  simp only [List.map_toArray, List.map_cons, List.map_nil, hx]
  kernel_rfl
set_option maxRecDepth 10000 in
set_option maxHeartbeats 4000000 in
theorem near_any (v : Value) (l : List RW.Rw) (hl : l.length ≤ 9223372036854775807) (w : World) (hv : RwsV w v l) :
    Calls Try.prog 9 #[v] w fun e w' => ∃ u, e = .returned u ∧ RwsO w' w.heap.size u (RW.nrL l) ∧ Below w.heap.size w w' := by
  obtain ⟨av, cv, rfl, _, hav⟩ := hv
  obtain ⟨m, hm⟩ : ∃ m, m = l.length := ⟨_, rfl⟩
  have hmH := hide hm
  have havH := hide hav
  rw [← hm] at hl ⊢
  obtain ⟨B, hB⟩ : ∃ B, B = w.heap.size := ⟨_, rfl⟩
  have hBH := hide hB
  have hsz := hide (fun W (h : Below B w W) => (show B ≤ W.heap.size by rw [hB]; exact hB ▸ h.size))
  rw [← hB]
  clear hm hav hB
  go_enter Try.func9, Try.ntmps9
  go_wp2
  go_loopw [3, 4] (fun o i wr => ∃ j : Nat, i = .int .i64 j ∧ j ≤ m ∧ j ≤ 20 ∧ Hid (RwsO wr B o ((l.take j).map RW.nrR) ∧ Below B w wr)) (fun _ i _ => 20 - (intOf i).toNat)
  case atStart => exact ⟨0, rfl, Nat.zero_le _, Nat.zero_le _, RwsO.nil _ _, by rw [hBH.out]; exact Below.refl _ _⟩
  case round =>
    obtain ⟨j, rfl, hj, hj20, hQ⟩ := hrel
    obtain ⟨wo, hwo⟩ : ∃ wo, wo = wr := ⟨_, rfl⟩
    subst hwo
    have hO := hide hQ.out.1
    have hBo := hide hQ.out.2
    clear hQ
    by_cases hjm : j < m
    · by_cases hj2 : j < 20
      · obtain ⟨r, hr⟩ : ∃ r, l[j]? = some r := ⟨_, List.getElem?_eq_getElem (by rw [← hmH.out]; exact hjm)⟩
        obtain ⟨b, o, rfl, hbb, hc⟩ := havH.out.resolve_left (by rintro rfl; simp at hr)
        have hrg : wo.rangeAt b (o + j * 12) (RW.rwl r) := fun i u hu => (World.cell?_of_block (a := ⟨b, o + j * 12 + i, none⟩) (hBo.out.block _ (by rw [hBH.out]; exact hbb))).trans (hc j r hr i u hu)
        have hps := rw_size r
        have hpo := rw_one r
        have htk := hide (show (l.take (j + 1)).map RW.nrR = (l.take j).map RW.nrR ++ [RW.nrR r] by rw [List.take_add_one, hr, Option.toList_some, List.map_append]; rfl)
        obtain ⟨bx, hbx⟩ : ∃ b, b = wo.heap.size := ⟨_, rfl⟩
        have hg0 := hide (show (wo.alloc (.cells (RW.rwl r).toArray 57)).heap[bx]? = some (.cells (RW.rwl r).toArray 57 (0, 0)) from newAt hbx)
        have hbxH := hide hbx
        have hA1 := hide (alloc_bel (Below.refl wo.heap.size wo) (Nat.le_refl _) (.cells (RW.rwl r).toArray 57))
        have hbB := hide (show B ≤ bx by rw [hbx]; exact hsz.out _ hBo.out)
        have hne := hide (fun g (hg : _ = some g) => (show g < bx by rw [hbx]; exact (own_block hO.out hg).2.1))
        clear hbx hr hbb hc
        go_upto_region 6 with (first
          | (refine wpList_load_mid rfl 57 (.tmp 18) rfl b (o + j * 12) rfl (RW.rwl r) _ hrg Try.underlying57 rfl hps ?_)
          | (refine wpListStoreNew rfl 57 (.tmp 5) (.tmp 19) rfl (RW.rwl r).toArray rfl rfl 57 _ hps rfl hpo ?_))
        refine gen_w (fun W => W.heap[bx]? = some (.cells (RW.rwl r).toArray 57 (0, 0)) ∧ Below B w W ∧ RwsO W B _ ((l.take j).map RW.nrR)) ⟨hg0.out, hBo.out.trans (hA1.out.mono (hsz.out _ hBo.out)), hO.out.next hA1.out⟩ ?_
        rw [← hbxH.out]
        clear hg0 hBo hrg hps hpo hA1 hO hbxH
        rintro w5 ⟨g1, g2, g3⟩
        have k2 := hide g2
        have k3 := hide g3
        have e10 : w5.cell? ⟨bx, 10, none⟩ = some (.int .i64 (r 10)) := cellAt g1 10
        have f10 : w5.frozen? ⟨bx, 10, none⟩ = false := by simp [World.frozen?, g1]
        obtain ⟨x10, hx10⟩ : ∃ x, x = r 10 := ⟨_, rfl⟩
        rw [← hx10] at e10
        obtain ⟨y, hy⟩ : ∃ y, y = min (max x10 (-1000000000000000)) 2000000000000000 := ⟨_, rfl⟩
        have hg6 := hide (show (w5.setCell ⟨bx, 10, none⟩ (.int .i64 y)).heap[bx]? = some (.cells (RW.rwl (RW.nrR r)).toArray 57 (0, 0)) from (heap_setCell_same _ _ _ _ _ _ g1).trans (by rw [RW.nrR_set r y (by rw [hy, hx10])]))
        have hB6 := hide (show Below B w (w5.setCell ⟨bx, 10, none⟩ (.int .i64 y)) from g2.setCell (p := ⟨bx, 10, none⟩) hbB.out _)
        have hO6 := hide (own_keep (W' := w5.setCell ⟨bx, 10, none⟩ (.int .i64 y)) g3 fun g hg => Below.heap_setCell _ _ _ _ (by have := hne.out g hg; show g ≠ bx; omega))
        have hyH := hide hy
        clear g1 g2 g3 hx10 hy hne
        go_upto_region 7 with fail
        rw [← hyH.out]
        clear e10 f10 k2 k3 hyH
        refine gen_w (fun W => W.heap[bx]? = some (.cells (RW.rwl (RW.nrR r)).toArray 57 (0, 0)) ∧ Below B w W ∧ RwsO W B _ ((l.take j).map RW.nrR)) ⟨hg6.out, hB6.out, hO6.out⟩ ?_
        clear hg6 hB6 hO6
        rintro w7 ⟨g1, g2, g3⟩
        obtain ⟨q, hq⟩ : ∃ q, q = RW.nrR r := ⟨_, rfl⟩
        rw [← hq] at g1 htk
        have hrow : w7.rangeAt bx 0 (RW.rwl q) := fun i u hu => by rw [Nat.zero_add]; exact (cellAt g1 i).trans (by rw [List.getElem?_toArray]; exact hu)
        have hps := rw_size q
        have hl12 : (RW.rwl q).length = 12 := rfl
        obtain ⟨v8, w8, hrun, hO8, hB8⟩ := g3.appNew q (by rw [List.length_map, List.length_take]; omega) (hsz.out _ g2)
        have hO8H := hide hO8
        have hB8H := hide (g2.trans hB8)
        clear g1 g2 g3 hO8 hB8 hq
        go_wp2_with (first
          | (refine wpList_load_mid rfl 57 (.tmp 5) rfl bx 0 rfl (RW.rwl q) _ hrow Try.underlying57 rfl hps ?_)
          | (refine wpList_bs_rw rfl (.tmp 26) rfl q rfl ?_)
          | (at_builtin; refine wpList_app_run rfl (.tmp 25) (.tmp 27) rfl rfl rfl hrun ?_))
        go_roundw
        case rel => exact ⟨j + 1, by go_num, by omega, by omega, by rw [htk.out]; exact hO8H.out, hB8H.out⟩
        case measure => simp [intOf]; omega
      · obtain rfl : j = 20 := by omega
        have hO2 := hide (show RwsO wo B _ (RW.nrL l) from hO.out)
        go_wp2
        go_ret
        exact ⟨_, rfl, hO2.out, hBo.out⟩
    · obtain rfl : m = j := by omega
      have hO2 := hide (show RwsO wo B _ (RW.nrL l) by
        have h1 := hO.out
        unfold RW.nrL
        rwa [List.take_of_length_le (by rw [← hmH.out]; exact Nat.le_refl _), ← List.take_of_length_le (show l.length ≤ 20 by rw [← hmH.out]; omega)] at h1)
      go_wp2
      go_ret
      exact ⟨_, rfl, hO2.out, hBo.out⟩
end Go.Proofs.Ytillplhadimgmaa

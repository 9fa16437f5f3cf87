/-
  Package statement: the closure of Encode, Encode: what they return; only new memory is written.
-/
import Derived.Test.YtillplhadimgmaaSt9
import Derived.Test.YtillplhadimgmaaStE
import Derived.Test.YtillplhadimgmaaBldS
namespace Go.Proofs.Ytillplhadimgmaa
open Go.RowKit RG
namespace RW
theorem below_grown {w w' : World} (h : Below w.heap.size w w') : w.grownBy w' none := ⟨h.os, h.tape, h.output, h.size, fun k hk _ => h.block k hk⟩
theorem bld_kept {T el : TypeId} {B b : Nat} {p : Value} {bs : List Value} {w w' : World} (h : Lib.BuilderAt T el B b p bs w) (hB : Below w.heap.size w w') : Lib.BuilderAt T el B b p bs w' := by
  obtain ⟨hb, v, hv, ho, hne⟩ := h
  exact ⟨hb, v, (hB.block _ (Array.getElem?_eq_some_iff.1 hv).1).trans hv, ho.kept (below_grown hB) (by cases e : v.ownBlock <;> simp), hne⟩
theorem isbld_kept {T e : TypeId} {B b : Nat} {bs : List Value} {w w' : World} (h : Lib.IsBuilder T e B b bs w) (hB : Below w.heap.size w w') : Lib.IsBuilder T e B b bs w' := by
  rcases h with h | h
  · exact .inl (bld_kept h hB)
  · exact .inr (bld_kept h hB)
theorem bld_new {T e : TypeId} (w : World) : Lib.IsBuilder T e w.heap.size w.heap.size [] (w.alloc (.cells #[.pointer none, .slice none 0 0] T)) :=
  .inl ⟨Nat.le_refl _, _, heap_alloc_new w _, World.ownsRow_nil _ _ _ _, by simp [Value.ownBlock]⟩
theorem str_app (a b : List UInt8) : Lib.byteCells (a ++ b) = Lib.byteCells a ++ Lib.strCells ⟨b.toArray⟩ := by simp [Lib.byteCells, Lib.strCells]
theorem size_arr (b : List UInt8) : (⟨b.toArray⟩ : ByteArray).size = b.length := by show b.toArray.size = _; simp
theorem encL_len : ∀ l : List Int, (encL l).length ≤ 10 * l.length
  | [] => by simp [encL]
  | n :: l => by
    have h1 := encL_len l
    have h2 := putI_len n
    rw [encL_cons, List.length_append, List.length_cons]
    omega
end RW
theorem bk_keep {w w' : World} {b : Nat} (h : Below w.heap.size w w') : RW.BKept 5 b w w' := fun k _ _ _ hk _ _ => h.block k (Array.getElem?_eq_some_iff.1 hk).1
theorem bk_trans {w w' w'' : World} {b : Nat} (h : RW.BKept 5 b w w') (g : RW.BKept 5 b w' w'') : RW.BKept 5 b w w'' := fun k cs t fr hk ht hb => (g k cs t fr ((h k cs t fr hk ht hb).trans hk) ht hb).trans (h k cs t fr hk ht hb)
/-- a builder's text in a world -/
abbrev BldA (W : World) (b : Nat) (t : List UInt8) : Prop := Lib.IsBuilder 72 5 b b (Lib.byteCells t) W
set_option maxRecDepth 100000 in
set_option maxHeartbeats 2000000 in
theorem put_three (b g : Nat) (t : List UInt8) (x y z : Int) (hx : RW.okI x) (hy : RW.okI y) (hz : RW.okI z) (ht : t.length ≤ 1000000) (w : World) (h : BldA w b t) (hb : b < w.heap.size) (hg : w.heap[g]? = some (.cells #[.int .i64 x, .int .i64 y, .int .i64 z] 3 (0, 0))) (hgb : g ≠ b) :
    Calls Try.prog 34 #[.slice (some ⟨g, 0, none⟩) 3 3, .pointer (some ⟨b, 0, none⟩)] w fun e w' => e = .returned (.tuple #[]) ∧ BldA w' b (t ++ RW.encL [x, y, z]) ∧ Below b w w' := by
  have hH := hide h
  have hbH := hide hb
  have hgH := hide hg
  have hgbH := hide hgb
  have hokH := hide (show ∀ (j : Nat) (q : Int), [x, y, z][j]? = some q → RW.okI q from fun j q hq => by
    rcases j with _ | _ | _ | j
    · cases hq; exact hx
    · cases hq; exact hy
    · cases hq; exact hz
    · simp at hq)
  have htH := hide ht
  clear h hb hg hgb hx hy hz ht
  go_enter Try.func34, Try.ntmps34
  go_wp2
  go_loopw [9] (fun i wr => ∃ j : Nat, i = .int .i64 j ∧ j ≤ 3 ∧ Hid (BldA wr b (t ++ RW.encL ([x, y, z].take j)) ∧ Below b w wr ∧ RW.BKept 5 b w wr)) (fun i _ => 3 - (intOf i).toNat)
  case atStart => exact ⟨0, rfl, by omega, by rw [List.take_zero]; simpa [RW.encL] using hH.out, Below.refl _ _, fun _ _ _ _ _ _ _ => rfl⟩
  case round =>
    obtain ⟨j, rfl, hj, hQ⟩ := hrel
    obtain ⟨wo, hwo⟩ : ∃ wo, wo = wr := ⟨_, rfl⟩
    subst hwo
    have hL := hide hQ.out.1
    have hBw := hide hQ.out.2.1
    have hK := hide hQ.out.2.2
    clear hQ
    by_cases hlt : j < 3
    · obtain ⟨q, hq⟩ : ∃ q, [x, y, z][j]? = some q := ⟨_, List.getElem?_eq_getElem (by simpa using hlt)⟩
      have hg1 := hide ((hK.out g _ _ _ hgH.out (by decide) hgbH.out).trans hgH.out)
      have e0 : wo.cell? ⟨g, 0 + j, none⟩ = some (.int .i64 q) := by
        rw [Nat.zero_add, cellAt hg1.out]
        rcases j with _ | _ | _ | j
        · cases hq; rfl
        · cases hq; rfl
        · cases hq; rfl
        · omega
      have hok := hide (hokH.out j q hq)
      have htk := hide (show RW.encL ([x, y, z].take (j + 1)) = RW.encL ([x, y, z].take j) ++ RW.putI q by rw [List.take_add_one, hq, Option.toList_some, RW.encL_append]; simp [RW.encL])
      have hlen := hide (show (t ++ RW.encL ([x, y, z].take j)).length ≤ 1000030 by
        have h1 := RW.encL_len ([x, y, z].take j)
        rw [List.length_take, List.length_cons, List.length_cons, List.length_cons, List.length_nil] at h1
        have := htH.out
        rw [List.length_append]
        omega)
      have hP := hide (putint q hok.out.1 hok.out.2 wo)
      obtain ⟨P, hPe⟩ : ∃ P, P = RW.putI q := ⟨_, rfl⟩
      have hPl := hide (show P.length ≤ 10 by rw [hPe]; exact RW.putI_len _)
      rw [← hPe] at hP htk
      have hW := hide (fun W (hW : Below wo.heap.size wo W) => writestring b b _ ⟨P.toArray⟩ W (RW.isbld_kept hL.out hW) (by rw [Lib.byteCells_length, RW.size_arr]; have := hlen.out; have := hPl.out; omega) (by have := hbH.out; have := hBw.out.size; have := hW.size; omega))
      clear hq hPe hg1
      rw [Nat.zero_add] at e0
      go_wp2_with (first
        | (go_at_call 35; refine hP.out.mono ?_; rintro e w5 ⟨rfl, hB5⟩; have hB5H := hide hB5; clear hB5)
        | (go_at_call 36; refine (hW.out _ hB5H.out).mono ?_; rintro e w6 ⟨rfl, h1, h2, h3⟩; have h1H := hide h1; have h2H := hide h2; have h3H := hide h3; clear h1 h2 h3))
      go_roundw
      case rel => exact ⟨j + 1, by go_num, by omega, .inr (by rw [htk.out, ← List.append_assoc, RW.str_app]; exact h1H.out), hBw.out.trans ((hB5H.out.mono (by have := hbH.out; have := hBw.out.size; omega)).trans h2H.out), bk_trans hK.out (bk_trans (bk_keep hB5H.out) h3H.out)⟩
      case measure => simp [intOf]; omega
    · obtain rfl : j = 3 := by omega
      have h1 := hide (show BldA wo b (t ++ RW.encL [x, y, z]) from hL.out)
      go_wp2
      go_end0
      exact ⟨rfl, h1.out, hBw.out⟩
namespace RW
noncomputable def encRes (s : St) : Value := if valB s = true then .tuple #[.string ⟨(encS s).toArray⟩, .int .i64 0] else .tuple #[.string ⟨#[]⟩, .int .i64 190]
end RW
set_option maxRecDepth 10000 in
set_option maxHeartbeats 4000000 in
theorem encode_any (h c : Int) (v : Value) (l : List RW.Ln) (hl : l.length ≤ 100000) (w : World) (hv : LnsV w v l) :
    Calls Try.prog 20 #[.agg #[.int .i64 h, .int .i64 c, v]] w fun e w' => e = .returned (RW.encRes (h, c, l)) ∧ Below w.heap.size w w' := by
  have hvH := hide hv
  have hlH := hide hl
  obtain ⟨a, ca, rfl, hca, ha⟩ := hv
  obtain ⟨n, hn⟩ : ∃ n, n = l.length := ⟨_, rfl⟩
  obtain ⟨B, hBe⟩ : ∃ B, B = w.heap.size := ⟨_, rfl⟩
  rw [← hn] at hl hvH
  rw [← hn]
  have hnH := hide hn
  have haH := hide ha
  have hBH := hide hBe
  have hB0 := hide (Nat.le_of_eq hBe)
  have hA0 := hide (alloc_bel (Below.refl w.heap.size w) (Nat.le_refl _) (.cells #[.int .i64 h, .int .i64 c, .slice a n ca] 39))
  have hs0 := hide (alloc_at1 w (.cells #[.int .i64 h, .int .i64 c, .slice a n ca] 39))
  rw [← hBe] at hA0 hs0 ⊢
  obtain ⟨R, hR⟩ : ∃ R, R = RW.encRes (h, c, l) := ⟨_, rfl⟩
  rw [← hR]
  have hRH := hide hR
  clear ha hn hca hR
  go_enter Try.func20, Try.ntmps20
  go_upto_region 1 with fail
  rw [← hBe]
  refine gen_w (fun W => Below B w W ∧ W.heap[B]? = some (.cells #[.int .i64 h, .int .i64 c, .slice a n ca] 39 (0, 0))) ⟨hA0.out, hs0.out⟩ ?_
  clear hA0 hs0 hBe
  rintro w1 ⟨g1, g2⟩
  have g1H := hide g1
  have g2H := hide g2
  have hi : (Try.prog.info? 39).map (·.size) = some (#[Value.int .i64 h, .int .i64 c, .slice a n ca] : Array Value).size := by kernel_rfl
  obtain ⟨q, hq⟩ : ∃ q, q = RW.valB (h, c, l) := ⟨_, rfl⟩
  have hqH := hide hq
  have hV := hide (valid_any h c (.slice a n ca) l (hnH.out ▸ hl) w1 (hvH.out.next (by rw [← hBH.out]; exact g1)))
  rw [← hq] at hV
  clear hq g1
  cases q
  · have hres := hide (show R = .tuple #[.string ⟨#[]⟩, .int .i64 190] by rw [hRH.out]; unfold RW.encRes; rw [← hqH.out, if_neg (by decide)])
    go_wp2_with (first
      | (refine wpList_load_row rfl 39 (.tmp 1) rfl B rfl 39 _ (0, 0) _ g2 Try.underlying39 rfl hi ?_)
      | (go_at_call 33; refine hV.out.mono ?_; rintro e w2 ⟨rfl, hB2⟩; have hB2H := hide hB2; clear hB2))
    go_ret2
    exact ⟨by rw [hres.out] <;> rfl, g1H.out.trans (hB2H.out.mono (by have := g1H.out.size; have := (Array.getElem?_eq_some_iff.1 g2H.out).1; omega))⟩
  · have hres := hide (show R = .tuple #[.string ⟨(RW.encS (h, c, l)).toArray⟩, .int .i64 0] by rw [hRH.out]; unfold RW.encRes; rw [← hqH.out, if_pos rfl])
    have hfac := hide (RW.valB_facts hqH.out.symm)
    go_upto_region 4 with (first
      | (refine wpList_load_row rfl 39 (.tmp 1) rfl B rfl 39 _ (0, 0) _ g2 Try.underlying39 rfl hi ?_)
      | (go_at_call 33; refine hV.out.mono ?_; rintro e w2 ⟨rfl, hB2⟩; have hB2H := hide hB2; clear hB2))
    have hlt := hide (Array.getElem?_eq_some_iff.1 g2H.out).1
    obtain ⟨b, hb⟩ : ∃ b, b = w2.heap.size := ⟨_, rfl⟩
    have hBb := hide (show B < b by rw [hb]; have := hlt.out; have := hB2H.out.size; omega)
    have hN0 := hide (RW.bld_new (T := 72) (e := 5) w2)
    have hA2 := hide (alloc_bel (Below.refl w2.heap.size w2) (Nat.le_refl _) (.cells #[.pointer none, .slice none 0 0] 72))
    have hBw2 := hide (show Below B w w2 from g1H.out.trans (hB2H.out.mono (Nat.le_of_lt hlt.out)))
    have hg2' := hide ((hB2H.out.block _ hlt.out).trans g2H.out)
    rw [← hb] at hN0 hA2 ⊢
    refine gen_w (fun W => BldA W b [] ∧ Below b w2 W ∧ b < W.heap.size) ⟨hN0.out, hA2.out, by rw [alloc_size, hb]; exact Nat.lt_succ_self _⟩ ?_
    clear hN0 hA2 hB2H hV g2 g2H g1H hi
    have hbH := hide hb
    clear hb
    rintro w3 ⟨k1, k2, k3⟩
    have k1H := hide k1
    have k2H := hide k2
    have k3H := hide k3
    have hst := hide ((k2.block _ hBb.out).trans hg2'.out)
    have e0 : w3.cell? ⟨B, 0, none⟩ = some (.int .i64 h) := cellAt hst.out 0
    have e1 : w3.cell? ⟨B, 1, none⟩ = some (.int .i64 c) := cellAt hst.out 1
    have e2 : w3.cell? ⟨B, 2, none⟩ = some (.slice a n ca) := cellAt hst.out 2
    clear k1 k2 k3
    have hA3 := hide (alloc_bel (Below.refl w3.heap.size w3) (Nat.le_refl _) (.cells #[.int .i64 h, .int .i64 c, .int .i64 n] 3))
    have hn0 := hide (show n ≤ 1200 by rw [hnH.out]; exact hfac.out.2.2)
    have hP3 := hide (put_three b w3.heap.size [] h c n (hfac.out.1 _ (by simp [RW.stN])) (hfac.out.1 _ (by simp [RW.stN])) ⟨by omega, by have := hn0.out; omega⟩ (by simp) (w3.alloc (.cells #[.int .i64 h, .int .i64 c, .int .i64 n] 3)) (RW.isbld_kept k1H.out hA3.out) (Nat.lt_of_lt_of_le k3H.out hA3.out.size) (alloc_at1 _ _) (by have := k3H.out; omega))
    rw [List.nil_append] at hP3
    go_upto_region 6 with (go_at_call 34; refine hP3.out.mono ?_; rintro e w4 ⟨rfl, h4, hB4⟩; have h4H := hide h4; have hB4H := hide hB4; clear h4 hB4)
    have hB24 := hide (show Below b w2 w4 from k2H.out.trans ((hA3.out.mono (Nat.le_of_lt k3H.out)).trans hB4H.out))
    have k4 := hide (show b < w4.heap.size from Nat.lt_of_lt_of_le k3H.out (Nat.le_trans hA3.out.size hB4H.out.size))
    have hst4 := (hB24.out.block _ hBb.out).trans hg2'.out
    have e2' : w4.cell? ⟨B, 2, none⟩ = some (.slice a n ca) := cellAt hst4 2
    clear hP3 hA3 e0 e1 e2 k1H k2H k3H hst hst4
    have hn1 := hn0.out
    go_wp2
    go_loopw [25] (fun i wr => ∃ j : Nat, i = .int .i64 j ∧ j ≤ n ∧ Hid (BldA wr b (RW.encL [h, c, n] ++ RW.encL (RW.flatZ (l.take j))) ∧ Below b w2 wr ∧ b < wr.heap.size)) (fun i _ => n - (intOf i).toNat)
    case atStart => exact ⟨0, rfl, Nat.zero_le _, by rw [List.take_zero]; simpa [RW.flatZ, RW.encL] using h4H.out, hB24.out, k4.out⟩
    case round =>
      obtain ⟨j, rfl, hj, hQ⟩ := hrel
      obtain ⟨wo, hwo⟩ : ∃ wo, wo = wr := ⟨_, rfl⟩
      subst hwo
      have hL := hide hQ.out.1
      have hBo := hide hQ.out.2.1
      have hbo := hide hQ.out.2.2
      clear hQ e2'
      by_cases hlt : j < n
      · obtain ⟨⟨x0, x1, x2⟩, hx⟩ : ∃ x, l[j]? = some x := ⟨_, List.getElem?_eq_getElem (by rw [← hnH.out]; exact hlt)⟩
        obtain ⟨bb, o, rfl, hbb, hc⟩ := haH.out.resolve_left (by rintro rfl; simp at hx)
        have hbw := hide (hBw2.out.block bb (by rw [hBH.out]; exact hbb))
        have hrg : wo.rangeAt bb (o + j * 3) (RW.lnl (x0, x1, x2)) := fun i u hu => (World.cell?_of_block (a := ⟨bb, o + j * 3 + i, none⟩) ((hBo.out.block bb (Nat.lt_trans (by rw [hBH.out]; exact hbb) hBb.out)).trans hbw.out)).trans (hc j _ hx i u hu)
        have hps := ln_size (x0, x1, x2)
        have hpo := ln_one (x0, x1, x2)
        have hmem := hide (List.mem_of_getElem? hx)
        have hok := hide (show RW.okI x0 ∧ RW.okI x1 ∧ RW.okI x2 from by
          have h1 : ∀ q ∈ [x0, x1, x2], q ∈ RW.stN (h, c, l) := fun q hq => by
            unfold RW.stN RW.flatZ
            refine List.mem_cons_of_mem _ (List.mem_cons_of_mem _ (List.mem_cons_of_mem _ (List.mem_flatMap.2 ⟨_, hmem.out, hq⟩)))
          exact ⟨hfac.out.1 _ (h1 _ (by simp)), hfac.out.1 _ (h1 _ (by simp)), hfac.out.1 _ (h1 _ (by simp))⟩)
        have htk := hide (show RW.encL (RW.flatZ (l.take (j + 1))) = RW.encL (RW.flatZ (l.take j)) ++ RW.encL [x0, x1, x2] by rw [List.take_add_one, hx, Option.toList_some, RW.flatZ_snoc, RW.encL_append])
        have hlen := hide (show (RW.encL [h, c, (n : Int)] ++ RW.encL (RW.flatZ (l.take j))).length ≤ 1000000 by
          have h1 := RW.encL_len [h, c, (n : Int)]
          have h2 := RW.encL_len (RW.flatZ (l.take j))
          rw [RW.flatZ_len, List.length_take] at h2
          rw [List.length_append]
          have := hn0.out
          have h3 : [h, c, (n : Int)].length = 3 := rfl
          omega)
        obtain ⟨bx, hbx⟩ : ∃ b, b = wo.heap.size := ⟨_, rfl⟩
        have hg0 := hide (show (wo.alloc (.cells (RW.lnl (x0, x1, x2)).toArray 61)).heap[bx]? = some (.cells (RW.lnl (x0, x1, x2)).toArray 61 (0, 0)) from newAt hbx)
        have hA5 := hide (alloc_bel (Below.refl wo.heap.size wo) (Nat.le_refl _) (.cells (RW.lnl (x0, x1, x2)).toArray 61))
        have hbxH := hide hbx
        clear hbx hx hbb hc
        go_upto_region 9 with (first
          | (refine wpList_load_mid rfl 61 (.tmp 27) rfl bb (o + j * 3) rfl (RW.lnl (x0, x1, x2)) _ hrg Try.underlying61 rfl hps ?_)
          | (refine wpListStoreNew rfl 61 (.tmp 7) (.tmp 28) rfl (RW.lnl (x0, x1, x2)).toArray rfl rfl 61 _ hps rfl hpo ?_))
        refine gen_w (fun W => W.heap[bx]? = some (.cells (RW.lnl (x0, x1, x2)).toArray 61 (0, 0)) ∧ BldA W b (RW.encL [h, c, (n : Int)] ++ RW.encL (RW.flatZ (l.take j))) ∧ Below b w2 W ∧ b < W.heap.size) ⟨hg0.out, RW.isbld_kept hL.out hA5.out, hBo.out.trans (hA5.out.mono (Nat.le_of_lt hbo.out)), Nat.lt_of_lt_of_le hbo.out hA5.out.size⟩ ?_
        rw [← hbxH.out]
        clear hg0 hL hBo hA5 hbo hrg hps hpo hbxH hbw
        rintro w5 ⟨g1, g2, g3, g4⟩
        have c0 : w5.cell? ⟨bx, 0, none⟩ = some (.int .i64 x0) := cellAt g1 0
        have c1 : w5.cell? ⟨bx, 1, none⟩ = some (.int .i64 x1) := cellAt g1 1
        have c2 : w5.cell? ⟨bx, 2, none⟩ = some (.int .i64 x2) := cellAt g1 2
        have g3H := hide g3
        have g4H := hide g4
        have hA6 := hide (alloc_bel (Below.refl w5.heap.size w5) (Nat.le_refl _) (.cells #[.int .i64 x0, .int .i64 x1, .int .i64 x2] 3))
        have hP5 := hide (put_three b w5.heap.size _ x0 x1 x2 hok.out.1 hok.out.2.1 hok.out.2.2 hlen.out (w5.alloc (.cells #[.int .i64 x0, .int .i64 x1, .int .i64 x2] 3)) (RW.isbld_kept g2 hA6.out) (Nat.lt_of_lt_of_le g4 hA6.out.size) (alloc_at1 _ _) (by have := g4H.out; omega))
        clear g1 g2 g3 g4
        go_wp2_with (go_at_call 34; refine hP5.out.mono ?_; rintro e w6 ⟨rfl, h6, hB6⟩; have h6H := hide h6; have hB6H := hide hB6; clear h6 hB6)
        go_roundw
        case rel => exact ⟨j + 1, by go_num, by omega, by rw [htk.out, ← List.append_assoc]; exact h6H.out, g3H.out.trans ((hA6.out.mono (Nat.le_of_lt g4H.out)).trans hB6H.out), Nat.lt_of_lt_of_le g4H.out (Nat.le_trans hA6.out.size hB6H.out.size)⟩
        case measure => simp [intOf]; omega
      · obtain rfl : n = j := by omega
        have hL2 := hide (show BldA wo b (RW.encS (h, c, l)) by
          have h1 := hL.out
          rw [List.take_of_length_le (by rw [← hnH.out]; exact Nat.le_refl _), ← RW.encL_append] at h1
          unfold RW.encS RW.stN
          rw [hnH.out] at h1
          exact h1)
        have hS := hide (SH.Builder_String_any b b (RW.encS (h, c, l)) wo hL2.out (Nat.le_of_lt hbo.out))
        clear hL
        go_wp2_with (go_at_call 37; refine hS.out.mono ?_; rintro e w6 ⟨rfl, hB6⟩; have hB6H := hide hB6; clear hB6)
        go_ret2
        exact ⟨by rw [hres.out] <;> rfl, hBw2.out.trans ((hBo.out.trans hB6H.out).mono (Nat.le_of_lt hBb.out))⟩
end Go.Proofs.Ytillplhadimgmaa

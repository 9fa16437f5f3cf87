/-
  Package ballot: Decode: what it returns; only new memory is written.
-/
import Derived.Test.YtcbckcojebanaaaDoorMZ5
import Derived.Test.YtcbckcojebanaaaDoorBal10
import Derived.Test.YtcbckcojebanaaaDoorMZ2
namespace Go.Proofs.YtcbckcojebanaaaDoor
open Go.RowKit RG
namespace RW
def ptr6 (r : Nat) : Array Value := #[.pointer (some ⟨r, 0, none⟩), .pointer (some ⟨r, 1, none⟩), .pointer (some ⟨r, 2, none⟩), .pointer (some ⟨r, 3, none⟩), .pointer (some ⟨r, 4, none⟩), .pointer (some ⟨r, 5, none⟩)]
theorem six_cases {j : Nat} (h : j < 6) : j = 0 ∨ j = 1 ∨ j = 2 ∨ j = 3 ∨ j = 4 ∨ j = 5 := by omega
theorem ptr6_get (r j : Nat) (h : j < 6) : (ptr6 r)[j]? = some (.pointer (some ⟨r, j, none⟩)) := by
  rcases six_cases h with rfl | rfl | rfl | rfl | rfl | rfl <;> rfl
theorem mcells_get (f : Nat → Int) (d : ByteArray) (v : Value) (j : Nat) (h : j < 6) : (mcells f d v)[j]? = some (.int .i64 (f j)) := by
  rcases six_cases h with rfl | rfl | rfl | rfl | rfl | rfl <;> rfl
theorem mcells_upd (f : Nat → Int) (d : ByteArray) (v : Value) (j : Nat) (n : Int) (h : j < 6) : (mcells f d v).setIfInBounds j (.int .i64 n) = mcells (upd f j n) d v := by
  rcases six_cases h with rfl | rfl | rfl | rfl | rfl | rfl <;> simp [mcells, upd]
theorem mcells_dig (f : Nat → Int) (d d' : ByteArray) (v : Value) : (mcells f d v).setIfInBounds 6 (.string d') = mcells f d' v := by simp [mcells]
theorem mcells_lst (f : Nat → Int) (d : ByteArray) (v v' : Value) : (mcells f d v).setIfInBounds 7 v' = mcells f d v' := by simp [mcells]
def noM : Array Value := mcells (fun _ => 0) ⟨#[]⟩ (.slice none 0 0)
end RW
/-- Decode's memory: its result, its input, its message, the pointers to the message's numbers -/
structure DecAt (B : Nat) (w : World) (s : ByteArray) (p : Nat × Bool) (f : Nat → Int) (d : ByteArray) (v : Value) (W : World) : Prop where
  below : Below B w W
  size : B + 4 ≤ W.heap.size
  res : W.heap[B]? = some (.cells RW.noM 24 (0, 0))
  inp : W.heap[B + 1]? = some (.cells (RW.inC s p) 79 (0, 0))
  msg : W.heap[B + 2]? = some (.cells (RW.mcells f d v) 24 (0, 0))
  row : W.heap[B + 3]? = some (.cells (RW.ptr6 (B + 2)) 81 (0, 0))
section
variable {B : Nat} {w W W' : World} {s : ByteArray} {p q : Nat × Bool} {f : Nat → Int} {d : ByteArray} {v : Value}
theorem DecAt.read (h : DecAt B w s p f d v W) (hO : Only (B + 1) W W') (hi : W'.heap[B + 1]? = some (.cells (RW.inC s q) 79 (0, 0))) : DecAt B w s q f d v W' :=
  ⟨h.below.trans (hO.below (by omega)), by rw [hO.size]; exact h.size, (hO.block _ (by omega)).trans h.res, hi, (hO.block _ (by omega)).trans h.msg, (hO.block _ (by omega)).trans h.row⟩
theorem DecAt.set (h : DecAt B w s p f d v W) (j : Nat) (u : Value) (f' : Nat → Int) (d' : ByteArray) (v' : Value) (he : (RW.mcells f d v).setIfInBounds j u = RW.mcells f' d' v') : DecAt B w s p f' d' v' (W.setCell ⟨B + 2, j, none⟩ u) :=
  ⟨h.below.setCell (by show B ≤ B + 2; omega) _, by simpa [World.setCell] using h.size, (Below.heap_setCell _ _ _ _ (by show B ≠ B + 2; omega)).trans h.res, (Below.heap_setCell _ _ _ _ (by show B + 1 ≠ B + 2; omega)).trans h.inp,
    by rw [← he]; exact heap_setCell_same _ _ _ _ _ _ h.msg, (Below.heap_setCell _ _ _ _ (by show B + 3 ≠ B + 2; omega)).trans h.row⟩
theorem DecAt.cm (h : DecAt B w s p f d v W) (j : Nat) : W.cell? ⟨B + 2, j, none⟩ = (RW.mcells f d v)[j]? := cell_at h.msg j
theorem DecAt.fm (h : DecAt B w s p f d v W) (j : Nat) : W.frozen? ⟨B + 2, j, none⟩ = false := by simp [World.frozen?, h.msg]
theorem DecAt.next (h : DecAt B w s p f d v W) (hB : Below (B + 4) W W') : DecAt B w s p f d v W' :=
  ⟨h.below.trans (hB.mono (by omega)), Nat.le_trans h.size hB.size, (hB.block _ (by omega)).trans h.res, (hB.block _ (by omega)).trans h.inp, (hB.block _ (by omega)).trans h.msg, (hB.block _ (by omega)).trans h.row⟩
end
theorem dec_start (B : Nat) (w : World) (s : ByteArray) (hB : B = w.heap.size) : DecAt B w s (0, false) (fun _ => 0) ⟨#[]⟩ (.slice none 0 0)
    ((((w.alloc (.cells RW.noM 24)).alloc (.cells (RW.inC s (0, false)) 79)).alloc (.cells RW.noM 24)).alloc (.cells (RW.ptr6 (B + 2)) 81)) := by
  refine ⟨?_, by simp; omega, ?_, ?_, ?_, heap_new_at (by simp; omega)⟩
  · exact ((((Below.refl B w).alloc (by omega) _).alloc (by simp; omega) _).alloc (by simp; omega) _).alloc (by simp; omega) _
  · exact (Below.heap_alloc _ _ _ (by simp; omega)).trans ((Below.heap_alloc _ _ _ (by simp; omega)).trans ((Below.heap_alloc _ _ _ (by simp; omega)).trans (heap_new_at hB)))
  · exact (Below.heap_alloc _ _ _ (by simp; omega)).trans ((Below.heap_alloc _ _ _ (by simp; omega)).trans (heap_new_at (by simp; omega)))
  · exact (Below.heap_alloc _ _ _ (by simp; omega)).trans (heap_new_at (by simp; omega))
theorem dec_results (tmps : Array Value) (w : World) (B : Nat) (cs : Array Value) (v : Int) (hn : cs.size = 8) (h2 : tmps[2]? = some (.pointer (some ⟨B, 0, none⟩))) (h3 : tmps[3]? = some (.int .i64 v))
    (hx : w.heap[B]? = some (.cells cs 24 (0, 0))) :
    (results Tryd.f23 tmps).run Tryd.prog w = .ok (.tuple #[.agg cs, .int .i64 v]) w := by
  have hi1 : (Tryd.prog.info? 24).map (·.size) = some cs.size := by rw [hn]; kernel_rfl
  have e1 := run_loadVar_row (P := Tryd.prog) w B 24 24 cs (0, 0) _ hx Tryd.underlying24 rfl hi1
  simp [results, Tryd.results23, h2, h3, asAddr, e1]
/-- what Decode answers -/
def DecOut (K : Nat → Int) (l : List UInt8) (e : Ending) (w' : World) : Prop := match RW.decM K l with
  | .wire => e = .returned (.tuple #[.agg RW.noM, .int .i64 10])
  | .bad => e = .returned (.tuple #[.agg RW.noM, .int .i64 250])
  | .msg n d t => ∃ v, e = .returned (.tuple #[.agg (RW.mcells n ⟨d.toArray⟩ v), .int .i64 0]) ∧ StrsV w' v (t.map fun x => ⟨x.toArray⟩)
theorem rdW_only (bi : Nat) (W : World) (p q : Nat × Bool) : Only bi W (rdW bi W p q) := by
  obtain ⟨a, b⟩ := p
  cases b with
  | true => exact Only.refl _ _
  | false => exact ((show Only bi W W.drew from ⟨rfl, rfl, rfl, rfl, fun _ _ => rfl⟩).setCell 1 _).setCell 2 _
theorem rdW_inp {bi : Nat} {W : World} {s : ByteArray} {a : Nat} {q : Nat × Bool} (h : W.heap[bi]? = some (.cells (RW.inC s (a, false)) 79 (0, 0))) : (rdW bi W (a, false) q).heap[bi]? = some (.cells (RW.inC s q) 79 (0, 0)) :=
  heap_setCell_same _ _ 2 _ _ _ (heap_setCell_same _ _ 1 _ _ _ h)
theorem DecAt.drew {B : Nat} {w W : World} {s : ByteArray} {p : Nat × Bool} {f : Nat → Int} {d : ByteArray} {v : Value} (h : DecAt B w s p f d v W) : DecAt B w s p f d v W.drew := ⟨h.below.drew, h.size, h.res, h.inp, h.msg, h.row⟩
theorem owns_only {bi base e n : Nat} {W W' : World} {v : Value} {xs : List Value} (h : W.ownsRow base e 1 v n xs) (hO : Only bi W W') (hb : bi < base) : W'.ownsRow base e 1 v n xs := by
  refine ⟨h.1, ?_⟩
  rcases h.2 with h1 | ⟨g, cap, cur, h1, h2, h3, h4⟩
  · exact .inl h1
  · exact .inr ⟨g, cap, cur, h1, h2, (hO.block g (by omega)).trans h3, h4⟩
theorem owns_keep {base e n : Nat} {W W' : World} {v : Value} {xs : List Value} (h : W.ownsRow base e 1 v n xs) (hk : ∀ g, base ≤ g → g < W.heap.size → W'.heap[g]? = W.heap[g]?) : W'.ownsRow base e 1 v n xs := by
  refine ⟨h.1, ?_⟩
  rcases h.2 with h1 | ⟨g, cap, cur, h1, h2, h3, h4⟩
  · exact .inl h1
  · exact .inr ⟨g, cap, cur, h1, h2, (hk g h2 (Array.getElem?_eq_some_iff.1 h3).1).trans h3, h4⟩
theorem bl_of (t : List (List UInt8)) : RW.bl (t.map (fun x => (⟨x.toArray⟩ : ByteArray))) = t := by
  induction t with
  | nil => rfl
  | cons x t ih =>
    rw [List.map_cons]
    show (x.toArray.toList) :: RW.bl (t.map (fun x => (⟨x.toArray⟩ : ByteArray))) = _
    rw [ih]
theorem owns_slice {base e n : Nat} {W : World} {v : Value} {xs : List Value} (h : W.ownsRow base e 1 v n xs) : ∃ a c, v = .slice a n c := by
  rcases h.2 with ⟨h1, h2⟩ | ⟨g, cap, cur, h1, _⟩
  · subst h2; exact ⟨_, _, h1⟩
  · exact ⟨_, _, h1⟩
theorem cf_text : ∀ args w, (callFunc 56 args).run Tryd.prog w = .ok (.enter 56 args) w := fun args w => by go_simp
set_option maxRecDepth 100000 in
set_option maxHeartbeats 8000000 in
theorem decode_any (s : ByteArray) (hs : s.size ≤ 9223372036854775807) (w : World) (K : Nat → Int) (ks : Array Value) (hks : RW.WsOk ks K) (hK : KLaid w ks) : Calls Tryd.prog 23 #[.string s] w fun e w' => DecOut K s.data.toList e w' ∧ Below w.heap.size w w' := by
  obtain ⟨B, hB⟩ : ∃ B, B = w.heap.size := ⟨_, rfl⟩
  have hsl : s.data.toList.length = s.size := by rw [Array.length_toList]; rfl
  obtain ⟨l, hl⟩ : ∃ l, l = s.data.toList := ⟨_, rfl⟩
  have hst := dec_start B w s hB
  have hstH := hide hst
  have hBH := hide hB
  have hnum : ∀ (p : Nat × Bool) (W : World), p.1 ≤ s.size → W.heap[B + 1]? = some (.cells (RW.inC s p) 79 (0, 0)) →
      Calls Tryd.prog 55 #[.pointer (some ⟨B + 1, 0, none⟩)] W (RdPost (B + 1) W s (.int .i64 (RW.rdI l p).1) p (RW.rdI l p).2) := fun p W hp h => by
    rw [hl]; exact number_any (B + 1) s (by omega) p hp W h
  have htxt : ∀ (p : Nat × Bool) (W : World), p.1 ≤ s.size → W.heap[B + 1]? = some (.cells (RW.inC s p) 79 (0, 0)) →
      Calls Tryd.prog 56 #[.pointer (some ⟨B + 1, 0, none⟩)] W (RdPost (B + 1) W s (.string ⟨(RW.rdS l p).1.toArray⟩) p (RW.rdS l p).2) := fun p W hp h => by
    rw [hl]; exact text_any (B + 1) s (by omega) p hp W h
  rw [← hl] at hsl ⊢
  have hpN : ∀ j, (RW.rdN l j).2.1 ≤ s.size := fun j => by rw [← hsl]; exact RW.rdN_le l j
  have hnumH := hide hnum
  have htxtH := hide htxt
  have hpNH := hide hpN
  have hslH := hide hsl
  have hKH := hide hK
  have hksH := hide hks
  clear hl hB hst hnum htxt hpN hsl hK hks
  go_enter Tryd.func23, Tryd.ntmps23
  go_wp2
  rw [← hBH.out]
  go_loopw [24] (fun i wr => ∃ j : Nat, j ≤ 6 ∧ i = .int .i64 j ∧ DecAt B w s (RW.rdN l j).2 (RW.rdN l j).1 ⟨#[]⟩ (.slice none 0 0) wr) (fun i _ => 6 - (intOf i).toNat)
  case atStart => exact ⟨0, by omega, rfl, hstH.out⟩
  case round =>
    obtain ⟨j, hj, rfl, hD⟩ := hrel
    by_cases hlt : j < 6
    · have rj : wr.cell? ⟨B + 1 + 1 + 1, j, none⟩ = some (.pointer (some ⟨B + 1 + 1, j, none⟩)) := by rw [show B + 1 + 1 + 1 = B + 3 from rfl, cell_at hD.row, RW.ptr6_get _ _ hlt]
      have hcall := hide (hnumH.out _ wr (hpNH.out j) hD.inp)
      have hDH := hide hD
      clear hD
      go_wp2_with (go_at_call 55; refine hcall.out.mono ?_; rintro e w5 ⟨rfl, hi5, hO5, hx5⟩; have hD5 := hDH.out.read hO5 hi5; have c5 : w5.cell? ⟨B + 1 + 1, j, none⟩ = some (.int .i64 ((RW.rdN l j).1 j)) := (hD5.cm j).trans (RW.mcells_get _ _ _ _ hlt); have f5 : w5.frozen? ⟨B + 1 + 1, j, none⟩ = false := hD5.fm j; have hD5H := hide hD5; have hi5H := hide hi5; clear hx5 hi5 hD5)
      go_roundw
      case rel => exact ⟨j + 1, by omega, by go_num, hD5H.out.set j _ _ _ _ (RW.mcells_upd _ _ _ _ _ hlt)⟩
      case measure => simp [intOf]; omega
    · obtain rfl : j = 6 := by omega
      have hcall := hide (htxtH.out _ wr (hpNH.out 6) hD.inp)
      have hDH := hide hD
      clear hD
      go_upto_region 10 with (go_at_call 56; refine hcall.out.mono ?_; rintro e w5 ⟨rfl, hi5, hO5, hx5⟩; have hD5 := hDH.out.read hO5 hi5; have c5 : w5.cell? ⟨B + 1 + 1, 6, none⟩ = some (.string ⟨#[]⟩) := (hD5.cm 6).trans rfl; have f5 : w5.frozen? ⟨B + 1 + 1, 6, none⟩ = false := hD5.fm 6; have hD5H := hide hD5; have hi5H := hide hi5; clear hx5 hi5 hD5)
      refine gen_world (DecAt B w s (RW.dP7 l) (RW.dF l) ⟨(RW.dD l).toArray⟩ (.slice none 0 0)) (hD5H.out.set 6 _ _ _ _ (RW.mcells_dig _ _ _ _)) ?_
      clear hD5H hi5H hO5 c5 f5 hcall hDH
      intro W1 hD1
      have hp7 : (RW.dP7 l).1 ≤ s.size := by rw [← hslH.out]; exact RW.rdS_le l _ (RW.rdN_le l 6)
      have hp8 : (RW.dP8 l).1 ≤ s.size := by rw [← hslH.out]; exact RW.rdI_le l _ (RW.rdS_le l _ (RW.rdN_le l 6))
      have hcall := hnumH.out _ W1 hp7 hD1.inp
      have hN0 := RW.rdI_zero l (RW.dP7 l)
      obtain ⟨r, hr⟩ : ∃ r, r = RW.rdI l (RW.dP7 l) := ⟨_, rfl⟩
      rw [← hr] at hcall hN0
      obtain ⟨N, a8, b8⟩ := r
      have hN : RW.dN l = N := by rw [RW.dN, ← hr]
      have hP8 : RW.dP8 l = (a8, b8) := by rw [RW.dP8, ← hr]
      rw [hP8] at hp8
      have hov : RW.dOver l = (!b8 && decide (N < 0 ∨ 4000 < N)) := by rw [RW.dOver, hN, hP8]
      simp only at hcall hN0
      have hcallH := hide hcall
      have hN0H := hide hN0
      have hNH := hide hN
      have hP8H := hide hP8
      have hD1H := hide hD1
      have hp8H := hide hp8
      clear hcall hr hD1 hp7 hN0 hN hP8 hp8
      go_upto_region 11 with (go_at_call 55; refine hcallH.out.mono ?_; rintro e w5 ⟨rfl, hi5, hO5, hx5⟩; have hD5 := hide (hD1H.out.read hO5 hi5); clear hx5 hi5)
      refine gen_world (DecAt B w s (a8, b8) (RW.dF l) ⟨(RW.dD l).toArray⟩ (.slice none 0 0)) hD5.out ?_
      clear hD5 hO5 hcallH hD1H
      intro W2 hD2
      have c2 : W2.cell? ⟨B + 1, 2, none⟩ = some (.bool b8) := by rw [cell_at hD2.inp]; rfl
      obtain ⟨ov, hove⟩ : ∃ ov, ov = RW.dOver l := ⟨_, rfl⟩
      rw [← hove] at hov
      have hovH := hide hov
      have hoveH := hide hove
      have hD2H := hide hD2
      clear hov hove hD2
      go_cut [50] (fun s50 wx => s50 = .bool ov ∧ wx = W2)
      case first =>
        cases b8 with
        | true =>
          go_wp2
          all_goals go_meet
          all_goals exact ⟨by rw [hovH.out] <;> rfl, rfl⟩
        | false =>
          by_cases h1 : N < 0
          · go_wp2
            all_goals go_meet
            all_goals exact ⟨by rw [hovH.out, decide_eq_true (.inl h1)] <;> rfl, rfl⟩
          · by_cases h2 : 4000 < N
            · go_wp2
              all_goals go_meet
              all_goals exact ⟨by rw [hovH.out, decide_eq_true (.inr h2)] <;> rfl, rfl⟩
            · go_wp2
              all_goals go_meet
              all_goals exact ⟨by rw [hovH.out, decide_eq_false (by omega)] <;> rfl, rfl⟩
      case rest =>
        obtain ⟨rfl, rfl⟩ := hcut
        have hnoI : (Tryd.prog.info? 24).map (·.size) = some RW.noM.size := msg_info _ _ _
        have hnoO : RW.noM.all (·.oneCell') = true := msg_one _ _ _ rfl
        cases ov with
        | true =>
          have hres := hD2H.out.res
          go_wp2_with (refine wpList_store_row rfl 24 (.tmp 2) (.tmp 51) rfl B RW.noM rfl rfl 24 RW.noM hres hnoI rfl hnoO ?_)
          refine bodyPost_ret (dec_results _ _ B RW.noM 250 rfl rfl rfl (setRow_heap _ _ _ _ _ _ hres)) rfl ⟨?_, by rw [← hBH.out]; exact RW.below_setRow hD2H.out.below (Nat.le_refl _) _⟩
          unfold DecOut
          rw [RW.decM_over K l hoveH.out.symm]
        | false =>
          have hov2 := hovH.out
          have hNb : 0 ≤ N ∧ N ≤ 4000 := by
            cases b8 with
            | true => have := hN0H.out rfl; omega
            | false =>
              rw [Bool.not_false, Bool.true_and] at hov2
              have := of_decide_eq_false hov2.symm
              omega
          clear hov2
          have hp8 := hp8H.out
          have hpL : ∀ i, (RW.rdL l (a8, b8) i).2.1 ≤ s.size := fun i => by rw [← hslH.out]; exact RW.rdL_le l (a8, b8) (by rw [hslH.out]; exact hp8) i
          have hpLH := hide hpL
          clear hpL hp8
          go_wp2
          go_loopw [10] (fun i wr => ∃ (k : Nat) (v : Value), i = .int .i64 k ∧ (k : Int) ≤ N ∧ Hid (∀ j, j < k → (RW.rdL l (a8, b8) j).2.2 = false) ∧ DecAt B w s (RW.rdL l (a8, b8) k).2 (RW.dF l) ⟨(RW.dD l).toArray⟩ v wr ∧ wr.ownsRow (B + 4) 9 1 v k (((RW.rdL l (a8, b8) k).1.map (fun x => (⟨x.toArray⟩ : ByteArray))).map .string)) (fun i _ => 4001 - (intOf i).toNat)
          case atStart => exact ⟨0, .slice none 0 0, rfl, hNb.1, fun j hj => absurd hj (Nat.not_lt_zero _), hD2H.out, World.ownsRow_nil _ _ _ _⟩
          case round =>
            clear hD2H
            obtain ⟨k, v, rfl, hkN, hgood, hD, hown⟩ := hrel
            have hpk := hpLH.out k
            have hstep : RW.rdL l (a8, b8) (k + 1) = ((RW.rdL l (a8, b8) k).1 ++ [(RW.rdS l (RW.rdL l (a8, b8) k).2).1], (RW.rdS l (RW.rdL l (a8, b8) k).2).2) := rfl
            have hlen := RW.rdL_len l (a8, b8) k
            have hsh := RW.rdL_short l (a8, b8) k
            obtain ⟨r, hr⟩ : ∃ r, r = RW.rdL l (a8, b8) k := ⟨_, rfl⟩
            rw [← hr] at hD hown hpk hstep hlen hsh
            obtain ⟨ts, at_, b⟩ := r
            simp only at hD hown hpk hstep hlen hsh
            have c2 : wr.cell? ⟨B + 1, 2, none⟩ = some (.bool b) := by rw [cell_at hD.inp]; rfl
            have c1 : wr.cell? ⟨B + 1, 1, none⟩ = some (.int .i64 at_) := by rw [cell_at hD.inp]; rfl
            obtain ⟨c, hc⟩ : ∃ c, c = (decide ((k : Int) < N) && !b) := ⟨_, rfl⟩
            have hcH := hide hc
            have hDH := hide hD
            have hownH := hide hown
            have hrH := hide hr
            have hstepH := hide hstep
            have hlenH := hide hlen
            have hshH := hide hsh
            clear hc hD hown hr hstep hlen hsh
            go_upto_region 14 with fail
            go_cut [61] (fun s61 wx => s61 = .bool c ∧ wx = wr)
            case first =>
              by_cases h1 : (k : Int) < N
              · cases b with
                | true =>
                  go_wp2
                  all_goals go_meet
                  all_goals exact ⟨by rw [hcH.out, decide_eq_true h1] <;> rfl, rfl⟩
                | false =>
                  go_wp2
                  all_goals go_meet
                  all_goals exact ⟨by rw [hcH.out, decide_eq_true h1] <;> rfl, rfl⟩
              · go_wp2
                all_goals go_meet
                all_goals exact ⟨by rw [hcH.out, decide_eq_false (by omega)] <;> rfl, rfl⟩
            case rest =>
              obtain ⟨rfl, rfl⟩ := hcut
              cases c with
              | true =>
                have hc2 := hcH.out
                have hb : b = false := by
                  cases b with
                  | false => rfl
                  | true => simp at hc2
                subst hb
                have hkl : (k : Int) < N := by
                  rw [Bool.not_false, Bool.and_true] at hc2
                  exact of_decide_eq_true hc2.symm
                clear hc2
                obtain ⟨pa, ca, rfl⟩ := owns_slice hownH.out
                obtain ⟨q, hq⟩ : ∃ q, q = RW.rdS l (at_, false) := ⟨_, rfl⟩
                obtain ⟨T, q⟩ := q
                have hcw : Calls Tryd.prog 56 #[.pointer (some ⟨B + 1, 0, none⟩)] wc.drew (fun e w' => e = .returned (.string ⟨T.toArray⟩) ∧ w' = rdW (B + 1) wc.drew (at_, false) q) := by
                  refine (htxtH.out (at_, false) wc.drew hpk hDH.out.inp).mono ?_
                  rintro e w' ⟨h1, _, _, h4⟩
                  rw [← hq] at h1 h4
                  exact ⟨h1, h4⟩
                obtain ⟨W1, hW1⟩ : ∃ W1, W1 = rdW (B + 1) wc.drew (at_, false) q := ⟨_, rfl⟩
                have hD1 : DecAt B w s q (RW.dF l) ⟨(RW.dD l).toArray⟩ (.slice pa k ca) W1 := by rw [hW1]; exact hDH.out.drew.read (rdW_only _ _ _ _) (rdW_inp hDH.out.drew.inp)
                have hown1 : W1.ownsRow (B + 4) 9 1 (.slice pa k ca) k ((ts.map (fun x => (⟨x.toArray⟩ : ByteArray))).map .string) := by
                  rw [hW1]
                  exact owns_only (show wc.drew.ownsRow (B + 4) 9 1 (.slice pa k ca) k ((ts.map (fun x => (⟨x.toArray⟩ : ByteArray))).map .string) from hownH.out) (rdW_only _ _ _ _) (by omega)
                rw [← hW1] at hcw
                obtain ⟨v', w3, happ, hown3, hB3, _⟩ := app_str hown1 hD1.size (by omega) ⟨T.toArray⟩
                obtain ⟨pb, cb, rfl⟩ := owns_slice hown3
                have hD3 := hD1.next hB3
                have hc3 := (hD3.cm 7).trans (show (RW.mcells (RW.dF l) ⟨(RW.dD l).toArray⟩ (.slice pa k ca))[7]? = some (.slice pa k ca) from rfl)
                have hf3 := hD3.fm 7
                have hD4 := hD3.set 7 (.slice pb (k + 1) cb) _ _ _ (RW.mcells_lst _ _ _ _)
                have hown4 := ownsRow_setCell_below hown3 (a := ⟨B + 2, 7, none⟩) (by show B + 2 < B + 4; omega) (.slice pb (k + 1) cb)
                have hc7 : ∀ w', (w' = wc.drew ∨ w' = W1 ∨ w' = W1.alloc (.cells #[.string ⟨T.toArray⟩] 9)) → w'.cell? ⟨B + 2, 7, none⟩ = some (.slice pa k ca) := by
                  rintro w' (rfl | rfl | rfl)
                  · exact (hDH.out.drew.cm 7).trans rfl
                  · exact (hD1.cm 7).trans rfl
                  · exact ((hD1.next ((Below.refl _ _).alloc hD1.size _)).cm 7).trans rfl
                obtain ⟨nb, hnb⟩ : ∃ nb, nb = W1.heap.size := ⟨_, rfl⟩
                rw [← hnb] at happ
                go_upto_region 16 with fail
                refine wp_region_staged (st5 wc.drew W1 (W1.alloc (.cells #[.string ⟨T.toArray⟩] 9)) w3 (w3.setCell ⟨B + 2, 7, none⟩ (.slice pb (k + 1) cb))) [3, 4, 5, 7] (by kernel_rfl) (by kernel_rfl) (by rfl) rfl ?_
                refine st_val (.pointer (some ⟨B + 2, 7, none⟩)) (by rfl) (by rfl) (fun w' => op_fa_7 rfl rfl) ?_
                simp only [Act.put, List.setIfInBounds_toArray, List.set_cons_zero, List.set_cons_succ]
                refine st_op_in 0 2 (.slice pa k ca) (by rfl) (by rfl) (.inl rfl) (.inr (by decide +kernel)) (fun j w' _ hj hS => by rw [op_load_sl rfl rfl (hc7 w' (st5_two hS hj))]; exact ⟨rfl, hS⟩) ?_
                simp only [Act.put, List.setIfInBounds_toArray, List.set_cons_zero, List.set_cons_succ]
                refine st_val (.pointer (some ⟨B + 1, 0, none⟩)) (by rfl) (by rfl) (fun w' => op_mv rfl rfl) ?_
                simp only [Act.put, List.setIfInBounds_toArray, List.set_cons_zero, List.set_cons_succ]
                refine st_step 0 (.string ⟨T.toArray⟩) (by rfl) (by rfl) (by decide +kernel) (fun w' hS => by have hS : w' = _ := hS; subst hS; rw [op_call1 rfl rfl rfl cf_text]; exact hcw) ?_
                simp only [Act.put, List.setIfInBounds_toArray, List.set_cons_zero, List.set_cons_succ]
                refine st_step 1 (.slice (some ⟨nb, 0, none⟩) 1 1) (by rfl) (by rfl) (by decide +kernel) (fun w' hS => by have hS : w' = _ := hS; subst hS; rw [op_build_s rfl rfl]; exact ⟨by rw [hnb], rfl⟩) ?_
                simp only [Act.put, List.setIfInBounds_toArray, List.set_cons_zero, List.set_cons_succ]
                refine st_step 2 (.slice pb (k + 1) cb) (by rfl) (by rfl) (by decide +kernel) (fun w' hS => by have hS : w' = _ := hS; subst hS; rw [op_app rfl rfl rfl happ]; exact ⟨rfl, rfl⟩) ?_
                simp only [Act.put, List.setIfInBounds_toArray, List.set_cons_zero, List.set_cons_succ]
                refine st_val (.pointer (some ⟨B + 2, 7, none⟩)) (by rfl) (by rfl) (fun w' => op_fa_7 rfl rfl) ?_
                simp only [Act.put, List.setIfInBounds_toArray, List.set_cons_zero, List.set_cons_succ]
                refine st_step 3 undef (by rfl) (by rfl) (by decide +kernel) (fun w' hS => by have hS : w' = _ := hS; subst hS; rw [op_store_sl rfl rfl rfl hc3 hf3]; exact ⟨rfl, rfl⟩) ?_
                simp only [Act.put]
                refine st_nil ?_
                intro W' hW'
                have hW' : W' = _ := hW'
                go_upto_region 15 with fail
                refine gen_world (fun W => DecAt B w s (RW.rdL l (a8, b8) (k + 1)).2 (RW.dF l) ⟨(RW.dD l).toArray⟩ (.slice pb (k + 1) cb) W ∧ W.ownsRow (B + 4) 9 1 (.slice pb (k + 1) cb) (k + 1) (((RW.rdL l (a8, b8) (k + 1)).1.map (fun x => (⟨x.toArray⟩ : ByteArray))).map .string)) ?_ ?_
                · rw [hW', hstepH.out, ← hq]
                  refine ⟨hD4, ?_⟩
                  rw [List.map_append, List.map_append]
                  exact hown4
                · have hg1 := hide (show ∀ j, j < k + 1 → (RW.rdL l (a8, b8) j).2.2 = false from fun j hj => by
                    rcases Nat.lt_succ_iff_lt_or_eq.1 hj with h | h
                    · exact hgood.out j h
                    · rw [h, ← hrH.out])
                  clear hD4 hown4 hc7 hf3 hc3 hD3 hown3 hB3 happ hD1 hown1 hcw hW1 hq hnb hgood hW'
                  intro W5 hW5
                  have hW5H := hide hW5
                  clear hW5
                  go_wp2
                  go_roundw
                  case rel => exact ⟨k + 1, .slice pb (k + 1) cb, by go_num, by omega, hg1.out, hW5H.out.1, hW5H.out.2⟩
                  case measure => simp [intOf]; omega
              | false =>
                have hstop : RW.dStop l k := by
                  refine ⟨.inr (by rw [hNH.out]; exact hkN), by rw [hP8H.out]; exact hgood.out, ?_⟩
                  rw [hNH.out, hP8H.out, ← hrH.out]
                  have hc2 := hcH.out
                  cases b with
                  | true => exact .inr rfl
                  | false =>
                    rw [Bool.not_false, Bool.and_true] at hc2
                    exact .inl (of_decide_eq_false hc2.symm)
                have hM := RW.decM_stop K l hoveH.out.symm k hstop
                rw [hP8H.out, ← hrH.out, hslH.out] at hM
                simp only at hM
                obtain ⟨x, hx⟩ : ∃ x, x = (b || at_ != s.size) := ⟨_, rfl⟩
                have hMH := hide hM
                have hxH := hide hx
                clear hM hstop hx
                go_upto_region 17 with fail
                go_cut [71] (fun s71 wx => s71 = .bool x ∧ wx = wc)
                case first =>
                  cases b with
                  | true =>
                    go_wp2
                    all_goals go_meet
                    all_goals exact ⟨by rw [hxH.out] <;> rfl, rfl⟩
                  | false =>
                    have hne := hide (show ((at_ : Int) != (s.size : Int)) = (at_ != s.size) by
                      by_cases h : at_ = s.size
                      · rw [h]; simp
                      · have h2 : (at_ : Int) ≠ (s.size : Int) := by omega
                        rw [bne_iff_ne.2 h, bne_iff_ne.2 h2])
                    go_wp2
                    all_goals go_meet
                    all_goals exact ⟨by rw [hxH.out, Bool.false_or, ← hne.out] <;> rfl, rfl⟩
                case rest =>
                  obtain ⟨rfl, rfl⟩ := hcut
                  have hdd : ((⟨(RW.dD l).toArray⟩ : ByteArray)).data.toList = RW.dD l := by simp
                  cases x with
                  | true =>
                    have hres := hDH.out.res
                    go_wp2_with (refine wpList_store_row rfl 24 (.tmp 2) (.tmp 85) rfl B RW.noM rfl rfl 24 RW.noM hres hnoI rfl hnoO ?_)
                    refine bodyPost_ret (dec_results _ _ B RW.noM 10 rfl rfl rfl (setRow_heap _ _ _ _ _ _ hres)) rfl ⟨?_, by rw [← hBH.out]; exact RW.below_setRow hDH.out.below (Nat.le_refl _) _⟩
                    unfold DecOut
                    rw [hMH.out, if_pos]
                    have hx2 := hxH.out
                    cases b with
                    | true => exact .inl rfl
                    | false => exact .inr (bne_iff_ne.1 (by rw [Bool.false_or] at hx2; exact hx2.symm))
                  | false =>
                    have hne : ¬ (b = true ∨ at_ ≠ s.size) := by
                      have hx2 := hxH.out
                      rintro (h | h)
                      · rw [h] at hx2; cases hx2
                      · rw [bne_iff_ne.2 h, Bool.or_true] at hx2; cases hx2
                    have hM2 := hMH.out
                    rw [if_neg hne] at hM2
                    have hM2H := hide hM2
                    obtain ⟨cs, hcs⟩ : ∃ cs, cs = RW.mcells (RW.dF l) ⟨(RW.dD l).toArray⟩ v := ⟨_, rfl⟩
                    have hsv : StrsV wc v (ts.map (fun x => (⟨x.toArray⟩ : ByteArray))) := strs_own hownH.out
                    have hone := hsv.one
                    have hci : (Tryd.prog.info? 24).map (·.size) = some cs.size := by rw [hcs]; exact msg_info _ _ _
                    have hco : cs.all (·.oneCell') = true := by rw [hcs]; exact msg_one _ _ _ hone
                    have hcz : RW.noM.size = cs.size := by rw [hcs]; rfl
                    obtain ⟨mv, hmv⟩ : ∃ mv, mv = RW.msgB K (RW.dF l) (RW.dD l) ts := ⟨_, rfl⟩
                    have hV : Calls Tryd.prog 14 #[.agg cs] wc fun e w' => e = .returned (.bool mv) ∧ Below wc.heap.size wc w' := by
                      have h := valid_any (RW.dF l) ⟨(RW.dD l).toArray⟩ v (ts.map (fun x => (⟨x.toArray⟩ : ByteArray))) wc K hsv (by rw [List.length_map, hlenH.out]; omega) (fun u hu => by
                        obtain ⟨y, hy, rfl⟩ := List.mem_map.1 hu
                        have := hshH.out y hy
                        have e : (⟨y.toArray⟩ : ByteArray).size = y.length := by show y.toArray.size = _; simp
                        omega) ks hksH.out (bklaid hKH.out (by rw [← hBH.out]; exact hDH.out.below))
                      rw [bl_of, hdd, ← hmv] at h
                      rw [hcs]
                      exact h
                    have hm0 := hDH.out.msg
                    rw [← hcs] at hm0
                    have hVH := hide hV
                    have hmvH := hide hmv
                    have hcsH := hide hcs
                    have hsvH := hide hsv
                    have hsz := hide hDH.out.size
                    clear hV hmv hcs hsv hM2 hne hdd hone
                    go_upto_region 19 with fail
                    have hcs8 : cs.size = 8 := by rw [← hcz]; rfl
                    cases mv with
                    | true =>
                      go_wp2_with (first
                        | (refine wpList_load_row rfl 24 (.tmp 6) rfl (B + 2) rfl 24 cs (0, 0) _ hm0 Tryd.underlying24 rfl hci ?_)
                        | (go_at_call 14; refine hVH.out.mono ?_; rintro e w5 ⟨rfl, hB5⟩; have hD5 := hide (hDH.out.next (hB5.mono hsz.out)); have hm5 := (hB5.block (B + 2) (Nat.lt_of_lt_of_le (by omega) hsz.out)).trans hm0; have hr5 := hD5.out.res; have hB5H := hide hB5; clear hm0 hB5)
                        | (refine wpList_load_row rfl 24 (.tmp 6) rfl (B + 2) rfl 24 cs (0, 0) _ hm5 Tryd.underlying24 rfl hci ?_)
                        | (refine wpList_store_row rfl 24 (.tmp 2) (.tmp 91) rfl B cs rfl rfl 24 RW.noM hr5 hci hcz hco ?_))
                      refine bodyPost_ret (dec_results _ _ B cs 0 hcs8 rfl rfl (setRow_heap _ _ _ _ _ _ hr5)) rfl ⟨?_, by rw [← hBH.out]; exact RW.below_setRow hD5.out.below (Nat.le_refl _) _⟩
                      unfold DecOut
                      rw [hM2H.out, if_pos hmvH.out.symm]
                      refine ⟨v, by rw [hcsH.out], strs_own (owns_keep hownH.out fun g hg hgl => ?_)⟩
                      exact (setRow_other _ _ _ _ (by omega)).trans (hB5H.out.block _ hgl)
                    | false =>
                      go_wp2_with (first
                        | (refine wpList_load_row rfl 24 (.tmp 6) rfl (B + 2) rfl 24 cs (0, 0) _ hm0 Tryd.underlying24 rfl hci ?_)
                        | (go_at_call 14; refine hVH.out.mono ?_; rintro e w5 ⟨rfl, hB5⟩; have hD5 := hide (hDH.out.next (hB5.mono hsz.out)); have hr5 := hD5.out.res; have hB5H := hide hB5; clear hm0 hB5)
                        | (refine wpList_store_row rfl 24 (.tmp 2) (.tmp 90) rfl B RW.noM rfl rfl 24 RW.noM hr5 hnoI rfl hnoO ?_))
                      refine bodyPost_ret (dec_results _ _ B RW.noM 250 rfl rfl rfl (setRow_heap _ _ _ _ _ _ hr5)) rfl ⟨?_, by rw [← hBH.out]; exact RW.below_setRow hD5.out.below (Nat.le_refl _) _⟩
                      unfold DecOut
                      rw [hM2H.out, if_neg (by rw [← hmvH.out]; exact Bool.false_ne_true)]
end Go.Proofs.YtcbckcojebanaaaDoor

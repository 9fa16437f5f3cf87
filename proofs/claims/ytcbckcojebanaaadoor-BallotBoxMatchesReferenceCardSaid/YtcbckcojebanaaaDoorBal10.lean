/-
  Package ballot: Encode: what it returns; only new memory is written.
-/
import Derived.Test.YtcbckcojebanaaaDoorMZ5
namespace Go.Proofs.YtcbckcojebanaaaDoor
open Go.RowKit
theorem MRows.nextB {l : List (Nat × Array Value)} {w W W' : World} {B : Nat} (h : MRows l w W) (hB : Below B W W') (hw : w.heap.size ≤ B) (hl : ∀ x ∈ l, x.1 < B) : MRows l w W' :=
  ⟨h.below.trans (hB.mono hw), fun x hx => (hB.block _ (hl x hx)).trans (h.rows x hx)⟩
namespace RW
theorem encN_len (f : Nat → Int) (j : Nat) : (encN f j).length ≤ 10 * j := by
  induction j with
  | zero => simp [encN]
  | succ j ih => rw [encN_succ, List.length_append]; have := putI_len (f j); omega
theorem putS_len (d : ByteArray) : (putS d.data.toList).length ≤ 10 + d.size := by
  have h4 : (putS d.data.toList).length = (putI d.size).length + d.size := by rw [putS_eq, List.length_append, Array.length_toList]; rfl
  have h5 := putI_len d.size
  omega
theorem flatput_len : ∀ l : List (List UInt8), (∀ s ∈ l, s.length ≤ 4000) → (l.flatMap putS).length ≤ 4010 * l.length
  | [], _ => by simp
  | x :: l, h => by
    have h1 := flatput_len l (fun s hs => h s (by simp [hs]))
    have h2 := h x (by simp)
    have h3 := putS_len ⟨x.toArray⟩
    have h4 : (⟨x.toArray⟩ : ByteArray).size = x.length := by show x.toArray.size = _; simp
    rw [h4] at h3
    rw [List.flatMap_cons, List.length_append, List.length_cons, Nat.mul_succ]
    have h5 : (putS x).length ≤ 10 + x.length := h3
    omega
theorem flatput_step (l : List ByteArray) (j : Nat) (h : j < l.length) : ((bl l).take (j + 1)).flatMap putS = ((bl l).take j).flatMap putS ++ putS (l.getD j ⟨#[]⟩).data.toList := by
  have hl : j < (bl l).length := by rw [bl_len]; exact h
  rw [List.take_succ_eq_append_getElem hl, List.flatMap_append]
  have e : (bl l)[j] = (l.getD j ⟨#[]⟩).data.toList := by rw [← bl_get l j h, List.getD, List.getElem?_eq_getElem hl]; rfl
  rw [e]
  simp
theorem str_app (a b : List UInt8) : Lib.byteCells (a ++ b) = Lib.byteCells a ++ Lib.strCells ⟨b.toArray⟩ := by simp [Lib.byteCells, Lib.strCells]
theorem size_arr (b : List UInt8) : (⟨b.toArray⟩ : ByteArray).size = b.length := by show b.toArray.size = _; simp
theorem six6_get (n : Nat → Int) (j : Nat) (h : j < 6) : (six6 n)[j]? = some (.int .i64 (n j)) := by
  have h' : j = 0 ∨ j = 1 ∨ j = 2 ∨ j = 3 ∨ j = 4 ∨ j = 5 := by omega
  rcases h' with rfl | rfl | rfl | rfl | rfl | rfl <;> rfl
end RW
theorem index_six (n : Nat → Int) (j : Nat) (hj : j < 6) (W : World) : (Instr.index 68 (.agg (RW.six6 n)) (.int .i64 (j : Int))).run Tryd.prog W = .ok (.int .i64 (n j)) W := by
  have hr5 : (Tryd.prog.info? 3).map (·.size) = some 1 := by kernel_rfl
  have h1 := RW.six6_get n j hj
  cases hq : Tryd.prog.info? 3 with
  | none => simp [hq] at hr5
  | some inf =>
    have h2 : inf.size = 1 := by simpa [hq] using hr5
    simp [Instr.index, asIntOf, run_underlying Tryd.underlying68, hj, part, isAgg, run_underlying Tryd.underlying3, sizeOf, typeInfo, hq, h2, h1]
set_option maxRecDepth 100000 in
set_option maxHeartbeats 4000000 in
theorem encode_no (n : Nat → Int) (d : ByteArray) (v : Value) (l : List ByteArray) (w : World) (K : Nat → Int) (hv : StrsV w v l) (hl : l.length ≤ 140737488355328) (hs : ∀ s ∈ l, s.size ≤ 9223372036854775807) (ks : Array Value) (hks : RW.WsOk ks K) (hK : KLaid w ks)
    (hm : RW.msgB K n d.data.toList (RW.bl l) = false) :
    Calls Tryd.prog 12 #[.agg (RW.mcells n d v)] w fun e w' => e = .returned (.tuple #[.string ⟨#[]⟩, .int .i64 250]) ∧ Below w.heap.size w w' := by
  have hV : ∀ W, Below w.heap.size w W → Calls Tryd.prog 14 #[.agg (RW.mcells n d v)] W fun e w' => e = .returned (.bool false) ∧ Below W.heap.size W w' := fun W hB => by
    rw [← hm]; exact valid_any n d v l W K (hv.next hB) hl hs ks hks (bklaid hK hB)
  have hi1 : (Tryd.prog.info? 24).map (·.size) = some (RW.mcells n d v).size := by kernel_rfl
  have hz : (RW.mcells n d v).size = 8 := rfl
  obtain ⟨cs, hcs⟩ : ∃ cs, cs = RW.mcells n d v := ⟨_, rfl⟩
  rw [← hcs] at hi1 hz hV ⊢
  have hVH := hide hV
  have hzH := hide hz
  clear hcs hV hm hv hK hks hs hz
  go_enter Tryd.func12, Tryd.ntmps12
  go_upto_region 1 with fail
  obtain ⟨b1, hb1⟩ : ∃ b, b = w.heap.size := ⟨_, rfl⟩
  have hR := MRows.new (MRows.nil (Below.refl w.heap.size w)) cs
  rw [← hb1] at hR ⊢
  refine gen_world (MRows [(b1, cs)] w) hR ?_
  clear hR hb1
  intro W hF
  have hH := hF.rows (b1, cs) (by simp)
  have hVW := hide (hVH.out W hF.below)
  have hFb := hide hF.below
  clear hF
  go_wp2_with (first
    | (refine wpList_load_row rfl 24 (.tmp 1) rfl b1 rfl 24 cs (0, 0) _ hH Tryd.underlying24 rfl hi1 ?_)
    | (go_at_call 14; refine hVW.out.mono ?_; rintro e w' ⟨rfl, hB⟩; have hBH := hide hB; clear hB))
  go_ret2
  exact ⟨rfl, hFb.out.trans (hBH.out.mono hFb.out.size)⟩
/-- what Encode's writing has laid so far -/
def EncAt (w : World) (b1 b : Nat) (cs : Array Value) (t : List UInt8) (W : World) : Prop :=
  Lib.IsBuilder 62 5 b b (Lib.byteCells t) W ∧ MRows [(b1, cs)] w W ∧ b1 < b ∧ w.heap.size ≤ b ∧ b < W.heap.size
theorem EncAt.cell {w W : World} {b1 b : Nat} {cs : Array Value} {t : List UInt8} (h : EncAt w b1 b cs t W) (j : Nat) : W.cell? ⟨b1, j, none⟩ = cs[j]? := h.2.1.cell b1 cs (by simp) j
theorem EncAt.next {w W W' : World} {b1 b : Nat} {cs : Array Value} {t : List UInt8} (h : EncAt w b1 b cs t W) (hB : Below W.heap.size W W') : EncAt w b1 b cs t W' :=
  ⟨RW.isbld_kept h.1 hB, h.2.1.next hB, h.2.2.1, h.2.2.2.1, Nat.lt_of_lt_of_le h.2.2.2.2 hB.size⟩
/-- the closure writes on -/
theorem EncAt.put {w W : World} {b1 b : Nat} {cs : Array Value} {t : List UInt8} (h : EncAt w b1 b cs t W) (s : List UInt8) (x : Int) (hl : t.length + s.length ≤ 140737488355328) :
    Calls Tryd.prog 40 #[.string ⟨s.toArray⟩, .int .i64 x, .pointer (some ⟨b, 0, none⟩)] W fun e w' => e = .returned (.tuple #[]) ∧ EncAt w b1 b cs (t ++ s) w' ∧ W.heap.size ≤ w'.heap.size ∧ Below b W w' := by
  refine (put_any b b _ _ x W h.1 (by rw [Lib.byteCells_length, RW.size_arr]; exact hl) (Nat.le_of_lt h.2.2.2.2)).mono ?_
  rintro e w' ⟨rfl, h1, h2, h3⟩
  rw [← RW.str_app] at h1
  exact ⟨rfl, ⟨.inr h1, h.2.1.nextB h2 h.2.2.2.1 (by simpa using h.2.2.1), h.2.2.1, h.2.2.2.1, Nat.lt_of_lt_of_le h.2.2.2.2 h2.size⟩, h2.size, h2⟩
set_option maxRecDepth 100000 in
set_option maxHeartbeats 4000000 in
theorem encode_yes (n : Nat → Int) (d : ByteArray) (v : Value) (l : List ByteArray) (w : World) (K : Nat → Int) (hv : StrsV w v l) (hl : l.length ≤ 140737488355328) (hs : ∀ s ∈ l, s.size ≤ 9223372036854775807) (ks : Array Value) (hks : RW.WsOk ks K) (hK : KLaid w ks)
    (hm : RW.msgB K n d.data.toList (RW.bl l) = true) :
    Calls Tryd.prog 12 #[.agg (RW.mcells n d v)] w fun e w' => e = .returned (.tuple #[.string ⟨(RW.encM n d.data.toList (RW.bl l)).toArray⟩, .int .i64 0]) ∧ Below w.heap.size w w' := by
  have hV : ∀ W, Below w.heap.size w W → Calls Tryd.prog 14 #[.agg (RW.mcells n d v)] W fun e w' => e = .returned (.bool true) ∧ Below W.heap.size W w' := fun W hB => by
    rw [← hm]; exact valid_any n d v l W K (hv.next hB) hl hs ks hks (bklaid hK hB)
  obtain ⟨hn, hll⟩ := RW.msgB_lims K n _ _ hm
  obtain ⟨hd, hsl⟩ := RW.msgB_short K n _ _ hm
  rw [RW.bl_len] at hll
  have hde : d.data.toList.length = d.size := by rw [Array.length_toList]; rfl
  have hd32 : d.size ≤ 32 := by omega
  have hi1 : (Tryd.prog.info? 24).map (·.size) = some (RW.mcells n d v).size := by kernel_rfl
  have hz : (RW.mcells n d v).size = 8 := rfl
  obtain ⟨cs, hcs⟩ : ∃ cs, cs = RW.mcells n d v := ⟨_, rfl⟩
  have hn1 : ∀ i, i < 6 → cs[i]? = some (.int .i64 (n i)) := fun i hi => by
    rw [hcs]
    have h' : i = 0 ∨ i = 1 ∨ i = 2 ∨ i = 3 ∨ i = 4 ∨ i = 5 := by omega
    rcases h' with rfl | rfl | rfl | rfl | rfl | rfl <;> rfl
  have hn6 : cs[6]? = some (.string d) := by rw [hcs]; rfl
  have hn7 : cs[7]? = some v := by rw [hcs]; rfl
  have hix : ∀ j : Nat, j < 6 → ∀ W, _ := fun j hj W => index_six n j hj W
  simp only [RW.six6] at hix
  have hPI : ∀ j : Nat, j < 6 → ∀ W, _ := fun j hj W => putint (n j) (hn j hj).1 (hn j hj).2 W
  have hPd := fun W => putstr d (by omega) W
  have hPl := fun W => putint l.length (by omega) (by omega) W
  have hPs : ∀ j, j < l.length → ∀ W, _ := fun j hj W => putstr (l.getD j ⟨#[]⟩) (by
    have h1 : (l.getD j ⟨#[]⟩).data.toList ∈ RW.bl l := by
      rw [List.getD, List.getElem?_eq_getElem hj]
      exact List.mem_map.2 ⟨_, List.getElem_mem hj, rfl⟩
    have h2 := hsl _ h1
    rw [Array.length_toList] at h2
    exact Nat.le_trans h2 (by decide)) W
  obtain ⟨D, hD⟩ : ∃ D, D = RW.putS d.data.toList := ⟨_, rfl⟩
  obtain ⟨L, hL⟩ : ∃ L, L = RW.putI l.length := ⟨_, rfl⟩
  rw [← hD] at hPd
  rw [← hL] at hPl
  have hLl : L.length ≤ 10 := by rw [hL]; exact RW.putI_len _
  have hDl : D.length ≤ 42 := by
    have h4 := RW.putS_len d
    rw [hD]
    omega
  have hT : ∀ j, j ≤ l.length → (RW.encN n 6 ++ D ++ L ++ ((RW.bl l).take j).flatMap RW.putS).length ≤ 20000000 := fun j hj => by
    have h6 := RW.encN_len n 6
    have h7 := RW.flatput_len ((RW.bl l).take j) (fun s hs => hsl s (List.mem_of_mem_take hs))
    rw [List.length_take, RW.bl_len] at h7
    rw [List.length_append, List.length_append, List.length_append]
    omega
  have hTs : ∀ j, j < l.length → (RW.putS (l.getD j ⟨#[]⟩).data.toList).length ≤ 4010 := fun j hj => by
    have h1 : (l.getD j ⟨#[]⟩).data.toList ∈ RW.bl l := by
      rw [List.getD, List.getElem?_eq_getElem hj]
      exact List.mem_map.2 ⟨_, List.getElem_mem hj, rfl⟩
    have h2 := hsl _ h1
    have h3 := RW.putS_len (l.getD j ⟨#[]⟩)
    rw [Array.length_toList] at h2
    have h4 : (l.getD j ⟨#[]⟩).size ≤ 4000 := h2
    omega
  have hR : RW.encM n d.data.toList (RW.bl l) = RW.encN n 6 ++ D ++ L ++ (RW.bl l).flatMap RW.putS := by rw [RW.encM, hD, hL, RW.bl_len]
  obtain ⟨R, hRe⟩ : ∃ R, R = RW.encM n d.data.toList (RW.bl l) := ⟨_, rfl⟩
  rw [← hRe] at hR ⊢
  have hRH := hide hR
  rw [← hcs] at hi1 hz hV ⊢
  have hVH := hide hV
  have hzH := hide hz
  have hsv := hv
  obtain ⟨a, cap, rfl, hcap, hab⟩ := hsv
  have hn1H := hide hn1
  have hn6H := hide hn6
  have hn7H := hide hn7
  have hixH := hide hix
  have hPIH := hide hPI
  have hPdH := hide hPd
  have hPlH := hide hPl
  have hPsH := hide hPs
  have hTH := hide hT
  have hTsH := hide hTs
  have hvH := hide hv
  have habH := hide hab
  clear hT hTs hcs hV hm hv hK hks hs hz hde hn1 hn6 hn7 hix hPI hPd hPl hPs hab hD hL hR hRe hd hsl hn hcap
  obtain ⟨m, hme⟩ : ∃ m, m = l.length := ⟨_, rfl⟩
  rw [← hme] at hPlH hn7H hvH habH hll
  have hmeH := hide hme
  clear hme
  go_enter Tryd.func12, Tryd.ntmps12
  go_upto_region 1 with fail
  obtain ⟨b1, hb1⟩ : ∃ b, b = w.heap.size := ⟨_, rfl⟩
  have hR := MRows.new (MRows.nil (Below.refl w.heap.size w)) cs
  rw [← hb1] at hR ⊢
  refine gen_world (fun W => MRows [(b1, cs)] w W) hR ?_
  clear hR hb1
  intro W hF
  have hH := hF.rows (b1, cs) (by simp)
  have hVW := hide (hVH.out W hF.below)
  have hFH := hide hF
  clear hF
  go_upto_region 4 with (first
    | (refine wpList_load_row rfl 24 (.tmp 1) rfl b1 rfl 24 cs (0, 0) _ hH Tryd.underlying24 rfl hi1 ?_)
    | (go_at_call 14; refine hVW.out.mono ?_; rintro e w2 ⟨rfl, hB⟩; have hBH := hide hB; clear hB))
  have hF2 := hFH.out.next hBH.out
  obtain ⟨b, hb⟩ : ∃ b, b = w2.heap.size := ⟨_, rfl⟩
  have hE : EncAt w b1 b cs [] (w2.alloc (.cells #[.pointer none, .slice none 0 0] 62)) := by
    rw [hb]
    exact ⟨RW.bld_new w2, hF2.next ((Below.refl _ _).alloc (Nat.le_refl _) _), hF2.lt (b1, cs) (by simp), hF2.below.size, by simp⟩
  rw [← hb] at ⊢
  refine gen_world (EncAt w b1 b cs []) hE ?_
  clear hE hb hF2 hBH hFH hVW hH
  intro W3 hE3
  have c0 : W3.cell? ⟨b1, 0, none⟩ = some (.int .i64 (n 0)) := by rw [hE3.cell, hn1H.out 0 (by decide)]
  have c1 : W3.cell? ⟨b1, 1, none⟩ = some (.int .i64 (n 1)) := by rw [hE3.cell, hn1H.out 1 (by decide)]
  have c2 : W3.cell? ⟨b1, 2, none⟩ = some (.int .i64 (n 2)) := by rw [hE3.cell, hn1H.out 2 (by decide)]
  have c3 : W3.cell? ⟨b1, 3, none⟩ = some (.int .i64 (n 3)) := by rw [hE3.cell, hn1H.out 3 (by decide)]
  have c4 : W3.cell? ⟨b1, 4, none⟩ = some (.int .i64 (n 4)) := by rw [hE3.cell, hn1H.out 4 (by decide)]
  have c5 : W3.cell? ⟨b1, 5, none⟩ = some (.int .i64 (n 5)) := by rw [hE3.cell, hn1H.out 5 (by decide)]
  have hE3H := hide hE3
  clear hE3
  go_wp2
  go_loopw [27] (fun i wr => ∃ j : Nat, j ≤ 6 ∧ i = .int .i64 j ∧ EncAt w b1 b cs (RW.encN n j) wr) (fun i _ => 6 - (intOf i).toNat)
  case atStart => exact ⟨0, by omega, rfl, hE3H.out⟩
  case round =>
    clear hE3H c0 c1 c2 c3 c4 c5
    obtain ⟨j, hj, rfl, hEr⟩ := hrel
    by_cases hlt : j < 6
    · have hix := hixH.out j hlt
      have hpH := hide (hPIH.out j hlt)
      have hln := RW.encN_len n j
      have hpl := RW.putI_len (n j)
      have hErH := hide hEr
      clear hEr
      go_wp2_with (first
        | (go_at_call 42; refine (hpH.out _).mono ?_; rintro e w5 ⟨rfl, hB5⟩; have h5 := hide (hErH.out.next hB5))
        | (go_at_call 40; refine (h5.out.put _ _ (by omega)).mono ?_; rintro e w6 ⟨rfl, hE6, hs6, hB6⟩; have hE6H := hide hE6; clear hE6))
      go_roundw
      case rel => exact ⟨j + 1, by omega, by go_num, by rw [RW.encN_succ]; exact hE6H.out⟩
      case measure => simp [intOf]; omega
    · obtain rfl : j = 6 := by omega
      have c6 : wr.cell? ⟨b1, 6, none⟩ = some (.string d) := by rw [hEr.cell, hn6H.out]
      have hln := RW.encN_len n 6
      have hErH := hide hEr
      clear hEr
      go_upto_region 11 with (first
        | (go_at_call 43; refine (hPdH.out _).mono ?_; rintro e w5 ⟨rfl, hB5⟩; have h5 := hide (hErH.out.next hB5))
        | (go_at_call 40; refine (h5.out.put _ _ (by omega)).mono ?_; rintro e w6 ⟨rfl, hE6, hs6, hB6⟩))
      refine gen_world (EncAt w b1 b cs (RW.encN n 6 ++ D)) hE6 ?_
      clear hE6 h5 hB5 hErH c6 hs6 hB6
      intro W7 hE7
      have c7 : W7.cell? ⟨b1, 7, none⟩ = some (.slice a m cap) := by rw [hE7.cell, hn7H.out]
      have hl7 : (RW.encN n 6 ++ D).length ≤ 102 := by rw [List.length_append]; omega
      have hE7H := hide hE7
      clear hE7
      go_upto_region 12 with (first
        | (go_at_call 42; refine (hPlH.out _).mono ?_; rintro e w5 ⟨rfl, hB5⟩; have h5 := hide (hE7H.out.next hB5))
        | (go_at_call 40; refine (h5.out.put _ _ (by omega)).mono ?_; rintro e w6 ⟨rfl, hE6, hs6, hB6⟩))
      refine gen_world (EncAt w b1 b cs (RW.encN n 6 ++ D ++ L)) hE6 ?_
      clear hE6 h5 hB5 hE7H c7 hs6 hB6
      intro W9 hE9
      have c7 : W9.cell? ⟨b1, 7, none⟩ = some (.slice a m cap) := by rw [hE9.cell, hn7H.out]
      have hE9H := hide hE9
      clear hE9
      go_wp2
      go_loopw [55] (fun i wr => ∃ j : Nat, j ≤ m ∧ i = .int .i64 j ∧ EncAt w b1 b cs (RW.encN n 6 ++ D ++ L ++ ((RW.bl l).take j).flatMap RW.putS) wr) (fun i _ => m - (intOf i).toNat)
      case atStart => exact ⟨0, Nat.zero_le _, rfl, by simpa using hE9H.out⟩
      case round =>
        clear hE9H c7
        obtain ⟨j, hj, rfl, hEr⟩ := hrel
        by_cases hlt2 : j < m
        · have hjl : j < l.length := by rw [← hmeH.out]; exact hlt2
          obtain ⟨b0, o, ha, hb0, hc0⟩ := habH.out.resolve_left (by rintro rfl; simp at hjl)
          subst ha
          have cj : wr.cell? ⟨b0, o + j, none⟩ = some (.string (l.getD j ⟨#[]⟩)) := (World.cell?_of_block (a := ⟨b0, o + j, none⟩) (hEr.2.1.below.block _ hb0)).trans (hc0 j hlt2)
          have hpH := hide (hPsH.out j hjl)
          have hT1 := hTH.out j (Nat.le_of_lt hjl)
          have hT2 := hTsH.out j hjl
          have hst := hide (RW.flatput_step l j hjl)
          have hErH := hide hEr
          clear hEr hc0
          generalize l.getD j ⟨#[]⟩ = sj at cj hpH hT2 hst
          go_wp2_with (first
            | (go_at_call 43; refine (hpH.out _).mono ?_; rintro e w5 ⟨rfl, hB5⟩; have h5 := hide (hErH.out.next hB5))
            | (go_at_call 40; refine (h5.out.put _ _ (by omega)).mono ?_; rintro e w6 ⟨rfl, hE6, hs6, hB6⟩; have hE6H := hide hE6; clear hE6))
          go_roundw
          case rel => exact ⟨j + 1, by omega, by go_num, by rw [hst.out, ← List.append_assoc]; exact hE6H.out⟩
          case measure => simp [intOf]; omega
        · obtain rfl : j = m := by omega
          have hfull : (RW.bl l).take j = RW.bl l := List.take_of_length_le (by rw [RW.bl_len, ← hmeH.out]; omega)
          rw [hfull, ← hRH.out] at hEr
          have hS := hide (SH.Builder_String_any b b _ _ hEr.1 (Nat.le_of_lt hEr.2.2.2.2))
          have hBr := hide hEr.2.1.below
          have hwb := hEr.2.2.2.1
          clear hEr hfull
          go_wp2_with (go_at_call 44; refine hS.out.mono ?_; rintro e w8 ⟨rfl, hB8⟩)
          go_ret2
          exact ⟨rfl, hBr.out.trans (hB8.mono hwb)⟩
/-- what Encode answers -/
noncomputable def encRes (K n : Nat → Int) (d : ByteArray) (l : List ByteArray) : Value := if RW.msgB K n d.data.toList (RW.bl l) = true then .tuple #[.string ⟨(RW.encM n d.data.toList (RW.bl l)).toArray⟩, .int .i64 0] else .tuple #[.string ⟨#[]⟩, .int .i64 250]
theorem encode_any (n : Nat → Int) (d : ByteArray) (v : Value) (l : List ByteArray) (w : World) (K : Nat → Int) (hv : StrsV w v l) (hl : l.length ≤ 140737488355328) (hs : ∀ s ∈ l, s.size ≤ 9223372036854775807) (ks : Array Value) (hks : RW.WsOk ks K) (hK : KLaid w ks) :
    Calls Tryd.prog 12 #[.agg (RW.mcells n d v)] w fun e w' => e = .returned (encRes K n d l) ∧ Below w.heap.size w w' := by
  unfold encRes
  cases hm : RW.msgB K n d.data.toList (RW.bl l)
  · exact encode_no n d v l w K hv hl hs ks hks hK hm
  · exact encode_yes n d v l w K hv hl hs ks hks hK hm
end Go.Proofs.YtcbckcojebanaaaDoor

/-
  Package royaltyref25: Encode: what it returns; only new memory is written.
-/
import Derived.Test.YtcbckcojebanaaaDoorBr3
import Derived.Test.YtcbckcojebanaaaDoorMb
import Derived.Test.YtcbckcojebanaaaDoorBal10
namespace Go.Proofs.YtcbckcojebanaaaDoor
open Go.RowKit
theorem RW.putI_pos (x : Int) : 1 ≤ (RW.putI x).length := by
  rw [RW.putI_grp, List.length_map]
  obtain ⟨k, hk⟩ := RW.grp_pos 9 (RW.zz x)
  have hk' : (RW.grp 10 (RW.zz x)).length = k + 1 := hk
  omega
theorem own_fm {W : World} {B k m : Nat} {e : TypeId} {v : Value} {xs : List Value} (h : W.ownsRow B e k v m xs) : ∃ a c, v = .slice a m c := by
  rcases h.2 with ⟨rfl, h0⟩ | ⟨g, cap, cur, rfl, _⟩
  · exact ⟨none, 0, by rw [h0]⟩
  · exact ⟨_, _, rfl⟩
/-- what the reference's Encode has laid so far: its own row of bytes from block B on; the message's row b1, the row g6 of its six numbers -/
def REnc (w : World) (B b1 g6 : Nat) (cs : Array Value) (n : Nat → Int) (t : List UInt8) (v : Value) (W : World) : Prop :=
  W.ownsRow B 5 1 v t.length (RW.bytesV t) ∧ MRows [(b1, cs)] w W ∧ (∀ i, i < 6 → W.cell? ⟨g6, i, none⟩ = some (.int .i64 (n i))) ∧ b1 < B ∧ g6 < B ∧ w.heap.size ≤ B ∧ B ≤ W.heap.size
section
variable {w W W' : World} {B b1 g6 : Nat} {cs : Array Value} {n : Nat → Int} {t : List UInt8} {v : Value}
theorem REnc.cell (h : REnc w B b1 g6 cs n t v W) (j : Nat) : W.cell? ⟨b1, j, none⟩ = cs[j]? := h.2.1.cell b1 cs (by simp) j
theorem REnc.next (h : REnc w B b1 g6 cs n t v W) (hB : Below W.heap.size W W') : REnc w B b1 g6 cs n t v W' := by
  obtain ⟨h1, h2, h3, h4, h5, h6, h7⟩ := h
  refine ⟨own_keep h1 (fun g hg => hB.block _ (own_block h1 hg).2.1), h2.next hB, fun i hi => ?_, h4, h5, h6, Nat.le_trans h7 hB.size⟩
  exact (World.cell?_of_block (a := ⟨g6, i, none⟩) (hB.block _ (Nat.lt_of_lt_of_le h5 h7))).trans (h3 i hi)
theorem REnc.put (h : REnc w B b1 g6 cs n t v W) (s : ByteArray) {v' : Value} (ho : W'.ownsRow B 5 1 v' (t.length + s.size) (RW.bytesV t ++ Lib.strCells s)) (hg : W.grownBy W' v.ownBlock) : REnc w B b1 g6 cs n (t ++ s.data.toList) v' W' := by
  obtain ⟨h1, h2, h3, h4, h5, h6, h7⟩ := h
  have hB : Below B W W' := (Below.refl B W).grown hg h7 (fun k e => (own_block h1 e).1)
  refine ⟨?_, h2.nextB hB h6 (by simpa using h4), fun i hi => ?_, h4, h5, h6, Nat.le_trans h7 hB.size⟩
  · have e : RW.bytesV (t ++ s.data.toList) = RW.bytesV t ++ Lib.strCells s := by simp [RW.bytesV, Lib.strCells]
    have e2 : (t ++ s.data.toList).length = t.length + s.size := by rw [List.length_append, Array.length_toList]; rfl
    rw [e, e2]
    exact ho
  · exact (World.cell?_of_block (a := ⟨g6, i, none⟩) (hB.block _ h5)).trans (h3 i hi)
end
set_option maxRecDepth 100000 in
set_option maxHeartbeats 4000000 in
theorem rencode_no (n : Nat → Int) (d : ByteArray) (v : Value) (l : List ByteArray) (w : World) (hv : StrsV w v l) (hl : l.length ≤ 140737488355328) (hs : ∀ s ∈ l, s.size ≤ 9223372036854775807)
    (hm : RW.msgB RW.k0F n d.data.toList (RW.bl l) = false) :
    Calls Tryd.prog 13 #[.agg (RW.mcells n d v)] w fun e w' => e = .returned (.tuple #[.string ⟨#[]⟩, .int .i64 250]) ∧ Below w.heap.size w w' := by
  have hV : ∀ W, Below w.heap.size w W → Calls Tryd.prog 15 #[.agg (RW.mcells n d v)] W fun e w' => e = .returned (.bool false) ∧ Below W.heap.size W w' := fun W hB => by
    rw [← hm]; exact rvalid_any n d v l W (hv.next hB) hl hs
  have hi1 : (Tryd.prog.info? 24).map (·.size) = some (RW.mcells n d v).size := by kernel_rfl
  have hz : (RW.mcells n d v).size = 8 := rfl
  obtain ⟨cs, hcs⟩ : ∃ cs, cs = RW.mcells n d v := ⟨_, rfl⟩
  rw [← hcs] at hi1 hz hV ⊢
  have hVH := hide hV
  have hzH := hide hz
  clear hcs hV hm hv hs hz
  go_enter Tryd.func13, Tryd.ntmps13
  go_upto_region 1 with fail
  obtain ⟨b1, hb1⟩ : ∃ b, b = w.heap.size := ⟨_, rfl⟩
  have hR := MRows.new (MRows.nil (Below.refl w.heap.size w)) cs
  rw [← hb1] at hR ⊢
  refine gen_world (MRows [(b1, cs)] w) hR ?_
  clear hR hb1
  intro W hF
  have hH := hF.rows (b1, cs) (by simp)
  have hVW := hide (hVH.out W hF.below)
  have hFb := hide hF.below
  clear hF
  go_wp2_with (first
    | (refine wpList_load_row rfl 24 (.tmp 1) rfl b1 rfl 24 cs (0, 0) _ hH Tryd.underlying24 rfl hi1 ?_)
    | (go_at_call 15; refine hVW.out.mono ?_; rintro e w' ⟨rfl, hB⟩; have hBH := hide hB; clear hB))
  go_ret2
  exact ⟨rfl, hFb.out.trans (hBH.out.mono hFb.out.size)⟩
set_option maxRecDepth 100000 in
set_option maxHeartbeats 8000000 in
theorem rencode_yes (n : Nat → Int) (d : ByteArray) (v : Value) (l : List ByteArray) (w : World) (hv : StrsV w v l) (hl : l.length ≤ 140737488355328) (hs : ∀ s ∈ l, s.size ≤ 9223372036854775807) 
    (hm : RW.msgB RW.k0F n d.data.toList (RW.bl l) = true) :
    Calls Tryd.prog 13 #[.agg (RW.mcells n d v)] w fun e w' => e = .returned (.tuple #[.string ⟨(RW.encM n d.data.toList (RW.bl l)).toArray⟩, .int .i64 0]) ∧ Below w.heap.size w w' := by
  have hV : ∀ W, Below w.heap.size w W → Calls Tryd.prog 15 #[.agg (RW.mcells n d v)] W fun e w' => e = .returned (.bool true) ∧ Below W.heap.size W w' := fun W hB => by
    rw [← hm]; exact rvalid_any n d v l W (hv.next hB) hl hs
  obtain ⟨hn, hll⟩ := RW.msgB_lims RW.k0F n _ _ hm
  obtain ⟨hd, hsl⟩ := RW.msgB_short RW.k0F n _ _ hm
  rw [RW.bl_len] at hll
  have hde : d.data.toList.length = d.size := by rw [Array.length_toList]; rfl
  have hd32 : d.size ≤ 32 := by omega
  have hi1 : (Tryd.prog.info? 24).map (·.size) = some (RW.mcells n d v).size := by kernel_rfl
  have hz : (RW.mcells n d v).size = 8 := rfl
  obtain ⟨cs, hcs⟩ : ∃ cs, cs = RW.mcells n d v := ⟨_, rfl⟩
  have hn1 : ∀ i, i < 6 → cs[i]? = some (.int .i64 (n i)) := fun i hi => by
    rw [hcs]
    have h' : i = 0 ∨ i = 1 ∨ i = 2 ∨ i = 3 ∨ i = 4 ∨ i = 5 := by omega
    rcases h' with rfl | rfl | rfl | rfl | rfl | rfl <;> rfl
  have hn6 : cs[6]? = some (.string d) := by rw [hcs]; rfl
  have hn7 : cs[7]? = some v := by rw [hcs]; rfl
  have hPI : ∀ j : Nat, j < 6 → ∀ W, _ := fun j hj W => rputint (n j) (hn j hj).1 (hn j hj).2 W
  have hPd := fun W => rputstr d (by omega) W
  have hPl := fun W => rputint l.length (by omega) (by omega) W
  have hPs : ∀ j, j < l.length → ∀ W, _ := fun j hj W => rputstr (l.getD j ⟨#[]⟩) (by
    have h1 : (l.getD j ⟨#[]⟩).data.toList ∈ RW.bl l := by
      rw [List.getD, List.getElem?_eq_getElem hj]
      exact List.mem_map.2 ⟨_, List.getElem_mem hj, rfl⟩
    have h2 := hsl _ h1
    rw [Array.length_toList] at h2
    exact Nat.le_trans h2 (by decide)) W
  obtain ⟨D, hD⟩ : ∃ D, D = RW.putS d.data.toList := ⟨_, rfl⟩
  obtain ⟨L, hL⟩ : ∃ L, L = RW.putI l.length := ⟨_, rfl⟩
  rw [← hD] at hPd
  rw [← hL] at hPl
  have hLl : L.length ≤ 10 := by rw [hL]; exact RW.putI_len _
  have hLp : 1 ≤ L.length := by rw [hL]; exact RW.putI_pos _
  have hDl : D.length ≤ 42 := by
    have h4 := RW.putS_len d
    rw [hD]
    omega
  have hT : ∀ j, j ≤ l.length → (RW.encN n 6 ++ D ++ L ++ ((RW.bl l).take j).flatMap RW.putS).length ≤ 20000000 := fun j hj => by
    have h6 := RW.encN_len n 6
    have h7 := RW.flatput_len ((RW.bl l).take j) (fun s hs => hsl s (List.mem_of_mem_take hs))
    rw [List.length_take, RW.bl_len] at h7
    rw [List.length_append, List.length_append, List.length_append]
    omega
  have hTs : ∀ j, j < l.length → (RW.putS (l.getD j ⟨#[]⟩).data.toList).length ≤ 4010 := fun j hj => by
    have h1 : (l.getD j ⟨#[]⟩).data.toList ∈ RW.bl l := by
      rw [List.getD, List.getElem?_eq_getElem hj]
      exact List.mem_map.2 ⟨_, List.getElem_mem hj, rfl⟩
    have h2 := hsl _ h1
    have h3 := RW.putS_len (l.getD j ⟨#[]⟩)
    rw [Array.length_toList] at h2
    have h4 : (l.getD j ⟨#[]⟩).size ≤ 4000 := h2
    omega
  have hR : RW.encM n d.data.toList (RW.bl l) = RW.encN n 6 ++ D ++ L ++ (RW.bl l).flatMap RW.putS := by rw [RW.encM, hD, hL, RW.bl_len]
  obtain ⟨R, hRe⟩ : ∃ R, R = RW.encM n d.data.toList (RW.bl l) := ⟨_, rfl⟩
  rw [← hRe] at hR ⊢
  have hRH := hide hR
  rw [← hcs] at hi1 hz hV ⊢
  have hVH := hide hV
  have hzH := hide hz
  have hsv := hv
  obtain ⟨a, cap, rfl, hcap, hab⟩ := hsv
  have hn1H := hide hn1
  have hn6H := hide hn6
  have hn7H := hide hn7
  have hPIH := hide hPI
  have hPdH := hide hPd
  have hPlH := hide hPl
  have hPsH := hide hPs
  have hTH := hide hT
  have hTsH := hide hTs
  have hvH := hide hv
  have habH := hide hab
  clear hT hTs hcs hV hm hv hs hz hde hn1 hn6 hn7 hPI hPd hPl hPs hab hD hL hR hRe hd hsl hn hcap
  obtain ⟨m, hme⟩ : ∃ m, m = l.length := ⟨_, rfl⟩
  rw [← hme] at hPlH hn7H hvH habH hll
  have hmeH := hide hme
  clear hme
  obtain ⟨i0, hi, hz0, hz1, hz2⟩ := info_parts info5
  go_enter Tryd.func13, Tryd.ntmps13
  go_upto_region 1 with fail
  obtain ⟨b1, hb1⟩ : ∃ b, b = w.heap.size := ⟨_, rfl⟩
  have hR := MRows.new (MRows.nil (Below.refl w.heap.size w)) cs
  rw [← hb1] at hR ⊢
  refine gen_world (fun W => MRows [(b1, cs)] w W) hR ?_
  clear hR hb1
  intro W hF
  have hH := hF.rows (b1, cs) (by simp)
  have hVW := hide (hVH.out W hF.below)
  have hFH := hide hF
  clear hF
  go_upto_region 5 with (first
    | (refine wpList_load_row rfl 24 (.tmp 1) rfl b1 rfl 24 cs (0, 0) _ hH Tryd.underlying24 rfl hi1 ?_)
    | (go_at_call 15; refine hVW.out.mono ?_; rintro e w2 ⟨rfl, hB⟩; have hBH := hide hB; clear hB))
  have hF2 := hFH.out.next hBH.out
  have c0 : w2.cell? ⟨b1, 0, none⟩ = some (.int .i64 (n 0)) := by rw [hF2.cell b1 cs (by simp), hn1H.out 0 (by decide)]
  have c1 : w2.cell? ⟨b1, 1, none⟩ = some (.int .i64 (n 1)) := by rw [hF2.cell b1 cs (by simp), hn1H.out 1 (by decide)]
  have c2 : w2.cell? ⟨b1, 2, none⟩ = some (.int .i64 (n 2)) := by rw [hF2.cell b1 cs (by simp), hn1H.out 2 (by decide)]
  have c3 : w2.cell? ⟨b1, 3, none⟩ = some (.int .i64 (n 3)) := by rw [hF2.cell b1 cs (by simp), hn1H.out 3 (by decide)]
  have c4 : w2.cell? ⟨b1, 4, none⟩ = some (.int .i64 (n 4)) := by rw [hF2.cell b1 cs (by simp), hn1H.out 4 (by decide)]
  have c5 : w2.cell? ⟨b1, 5, none⟩ = some (.int .i64 (n 5)) := by rw [hF2.cell b1 cs (by simp), hn1H.out 5 (by decide)]
  have hF2H := hide hF2
  clear hF2 hBH hFH hVW hH
  go_upto_region 7 with fail
  have hN2 : (w2.alloc (.cells #[.int .i64 (n 0), .int .i64 (n 1), .int .i64 (n 2), .int .i64 (n 3), .int .i64 (n 4), .int .i64 (n 5)] 3)).heap.size = w2.heap.size + 1 := by simp
  have hE : REnc w (w2.heap.size + 1) b1 w2.heap.size cs n [] (.slice none 0 0) (w2.alloc (.cells #[.int .i64 (n 0), .int .i64 (n 1), .int .i64 (n 2), .int .i64 (n 3), .int .i64 (n 4), .int .i64 (n 5)] 3)) := by
    refine ⟨⟨rfl, .inl ⟨rfl, rfl⟩⟩, hF2H.out.next ((Below.refl _ _).alloc (Nat.le_refl _) _), fun i hi => ?_, Nat.lt_succ_of_lt (hF2H.out.lt (b1, cs) (by simp)), Nat.lt_succ_self _, Nat.le_succ_of_le hF2H.out.below.size, Nat.le_of_eq hN2.symm⟩
    rw [cell_at (heap_alloc_new w2 _)]
    have h' : i = 0 ∨ i = 1 ∨ i = 2 ∨ i = 3 ∨ i = 4 ∨ i = 5 := by omega
    rcases h' with rfl | rfl | rfl | rfl | rfl | rfl <;> rfl
  clear c0 c1 c2 c3 c4 c5 hN2
  obtain ⟨g6, hg6⟩ : ∃ b, b = w2.heap.size := ⟨_, rfl⟩
  rw [← hg6] at hE ⊢
  obtain ⟨B, hBe⟩ : ∃ B, B = g6 + 1 := ⟨_, rfl⟩
  rw [← hBe] at hE
  refine gen_world (REnc w B b1 g6 cs n [] (.slice none 0 0)) hE ?_
  clear hE hg6 hBe hF2H
  intro W3 hE3
  have hE3H := hide hE3
  clear hE3
  go_loopw [5, 7] (fun u i wr => ∃ j : Nat, j ≤ 6 ∧ i = .int .i64 j ∧ Hid (REnc w B b1 g6 cs n (RW.encN n j) u wr)) (fun _ i _ => 6 - (intOf i).toNat)
  case atStart => exact ⟨0, by omega, rfl, hE3H.out⟩
  case round =>
    clear hE3H
    obtain ⟨j, hj, rfl, hEr⟩ := hrel
    obtain ⟨au, cu, hu⟩ := own_fm hEr.out.1
    subst hu
    by_cases hlt : j < 6
    · have hcj := hEr.out.2.2.1 j hlt
      have hjl : (j : Int) < 6 := by omega
      obtain ⟨s, hs⟩ : ∃ s : ByteArray, s = ⟨(RW.putI (n j)).toArray⟩ := ⟨_, rfl⟩
      have hpH := hide (hPIH.out j hlt)
      rw [← hs] at hpH
      have hsd := hide (show s.data.toList = RW.putI (n j) by rw [hs])
      have hss : s.size ≤ 10 := by rw [hs]; show (RW.putI (n j)).toArray.size ≤ 10; rw [List.size_toArray]; exact RW.putI_len _
      have hsu := hide (RW.encN_succ n j)
      have hln := RW.encN_len n j
      obtain ⟨t, ht⟩ : ∃ t, t = RW.encN n j := ⟨_, rfl⟩
      rw [← ht] at hEr hln hsu
      rw [← ht]
      clear hs ht
      have hErH := hide hEr.out
      clear hEr
      go_upto_region 10 with (go_at_call 45; refine (hpH.out _).mono ?_; rintro e w5 ⟨rfl, hB5⟩; have h5 := hide (hErH.out.next hB5); clear hB5)
      have ho5 := h5.out.1
      have hb5 := h5.out.2.2.2.2.2.2
      clear hcj hErH hpH
      go_wp2_with (at_builtin; refine Lib.wpList_append_own_string _ rfl _ _ 60 9 rfl B 5 i0 Tryd.underlying60 Tryd.underlying9 hi hz0 hz1 hz2 _ _ _ rfl ho5 s rfl (by unfold maxLen; omega) (by omega) hb5 ?_; intro v' w' hn' hg' _)
      go_roundw
      case rel => exact ⟨j + 1, by omega, by go_num, by rw [hsu.out, ← hsd.out]; exact h5.out.put s hn' hg'⟩
      case measure => simp [intOf]; omega
    · obtain rfl : j = 6 := by omega
      have c6 : wr.cell? ⟨b1, 6, none⟩ = some (.string d) := by rw [hEr.out.cell, hn6H.out]
      have hln := RW.encN_len n 6
      obtain ⟨t, ht⟩ : ∃ t, t = RW.encN n 6 := ⟨_, rfl⟩
      rw [← ht] at hEr hln
      rw [← ht]
      rw [← ht] at hTH hRH
      have hErH := hide hEr.out
      clear hEr ht hPIH
      obtain ⟨sD, hsD⟩ : ∃ s : ByteArray, s = ⟨D.toArray⟩ := ⟨_, rfl⟩
      obtain ⟨sL, hsL⟩ : ∃ s : ByteArray, s = ⟨L.toArray⟩ := ⟨_, rfl⟩
      rw [← hsD] at hPdH
      rw [← hsL] at hPlH
      have hsDd := hide (show sD.data.toList = D by rw [hsD])
      have hsLd := hide (show sL.data.toList = L by rw [hsL])
      have hsDs : sD.size ≤ 42 := by rw [hsD]; show D.toArray.size ≤ 42; rw [List.size_toArray]; exact hDl
      have hsLs : sL.size ≤ 10 := by rw [hsL]; show L.toArray.size ≤ 10; rw [List.size_toArray]; exact hLl
      clear hsD hsL
      go_upto_region 12 with (go_at_call 46; refine (hPdH.out _).mono ?_; rintro e w5 ⟨rfl, hB5⟩; have h5 := hide (hErH.out.next hB5); clear hB5)
      have c7 : w5.cell? ⟨b1, 7, none⟩ = some (.slice a m cap) := by rw [h5.out.cell, hn7H.out]
      clear c6 hErH hPdH
      go_upto_region 13 with (go_at_call 45; refine (hPlH.out _).mono ?_; rintro e w6 ⟨rfl, hB6⟩; have h6 := hide (h5.out.next hB6); clear hB6)
      clear c7 h5 hPlH
      have ho6 := h6.out.1
      have hb6 := h6.out.2.2.2.2.2.2
      go_upto_region 14 with (first
        | (at_builtin; refine Lib.wpList_append_own_string _ rfl _ _ 60 9 rfl B 5 i0 Tryd.underlying60 Tryd.underlying9 hi hz0 hz1 hz2 _ _ _ rfl ho6 sD rfl (by unfold maxLen; omega) (by omega) hb6 ?_; intro v7 w7 hn7 hg7 _; have h7 := hide (h6.out.put sD hn7 hg7); have ho7 := h7.out.1; have hb7 := h7.out.2.2.2.2.2.2; have hl7 : (t ++ sD.data.toList).length = t.length + sD.size := by rw [List.length_append, Array.length_toList]; rfl)
        | (at_builtin; refine Lib.wpList_append_own_string _ rfl _ _ 60 9 rfl B 5 i0 Tryd.underlying60 Tryd.underlying9 hi hz0 hz1 hz2 _ _ _ rfl ho7 sL rfl (by unfold maxLen; omega) (by omega) hb7 ?_; intro v8 w8 hn8 hg8 _))
      have h8 := hide (h7.out.put sL hn8 hg8)
      clear h7 h6 ho6 hb6 ho7 hb7 hl7 hn7 hg7 hn8 hg8
      rw [← hsDd.out, ← hsLd.out] at hTH hRH
      have hT0 : 1 ≤ (t ++ sD.data.toList ++ sL.data.toList).length := by rw [hsLd.out, List.length_append]; omega
      obtain ⟨T0, hT0e⟩ : ∃ T, T = t ++ sD.data.toList ++ sL.data.toList := ⟨_, rfl⟩
      rw [← hT0e] at h8 hTH hRH hT0
      clear hT0e hsDd hsLd hsDs hsLs hDl hLl hLp hln
      go_wp2
      go_loopw [5, 14] (fun u i wr => ∃ j : Nat, j ≤ m ∧ i = .int .i64 j ∧ Hid (REnc w B b1 g6 cs n (T0 ++ ((RW.bl l).take j).flatMap RW.putS) u wr)) (fun _ i _ => m - (intOf i).toNat)
      case atStart => exact ⟨0, Nat.zero_le _, rfl, by rw [List.take_zero, List.flatMap_nil, List.append_nil]; exact h8⟩
      case round =>
        clear h8
        obtain ⟨j, hj, rfl, hEr⟩ := hrel
        obtain ⟨au, cu, hu⟩ := own_fm hEr.out.1
        subst hu
        have c7 : wr.cell? ⟨b1, 7, none⟩ = some (.slice a m cap) := by rw [hEr.out.cell, hn7H.out]
        by_cases hlt2 : j < m
        · have hjl : j < l.length := by rw [← hmeH.out]; exact hlt2
          obtain ⟨b0, o, ha, hb0, hc0⟩ := habH.out.resolve_left (by rintro rfl; simp at hjl)
          subst ha
          have cj : wr.cell? ⟨b0, o + j, none⟩ = some (.string (l.getD j ⟨#[]⟩)) := (World.cell?_of_block (a := ⟨b0, o + j, none⟩) (hEr.out.2.1.below.block _ hb0)).trans (hc0 j hlt2)
          have hpH := hide (hPsH.out j hjl)
          have hT1 := hTH.out j (Nat.le_of_lt hjl)
          have hT2 := hTsH.out j hjl
          have hst := RW.flatput_step l j hjl
          obtain ⟨q, hq⟩ : ∃ q, q = T0 ++ ((RW.bl l).take j).flatMap RW.putS := ⟨_, rfl⟩
          rw [← hq] at hEr hT1
          rw [← hq]
          have hst2 : T0 ++ ((RW.bl l).take (j + 1)).flatMap RW.putS = q ++ RW.putS (l.getD j ⟨#[]⟩).data.toList := by rw [hst, hq, List.append_assoc]
          clear hq hst hc0
          generalize l.getD j ⟨#[]⟩ = sj at cj hpH hT2 hst2
          obtain ⟨sq, hsq⟩ : ∃ s : ByteArray, s = ⟨(RW.putS sj.data.toList).toArray⟩ := ⟨_, rfl⟩
          rw [← hsq] at hpH
          have hsqd : sq.data.toList = RW.putS sj.data.toList := by rw [hsq]
          have hsqs : sq.size ≤ 4010 := by rw [hsq]; show (RW.putS sj.data.toList).toArray.size ≤ 4010; rw [List.size_toArray]; exact hT2
          rw [← hsqd] at hst2
          have hst3 := hide hst2
          have hErH := hide hEr.out
          clear hsq hsqd hst2 hEr hT2
          go_upto_region 18 with (go_at_call 46; refine (hpH.out _).mono ?_; rintro e w9 ⟨rfl, hB9⟩; have h9 := hide (hErH.out.next hB9); clear hB9)
          have ho9 := h9.out.1
          have hb9 := h9.out.2.2.2.2.2.2
          clear cj c7 hErH hpH
          go_wp2_with (at_builtin; refine Lib.wpList_append_own_string _ rfl _ _ 60 9 rfl B 5 i0 Tryd.underlying60 Tryd.underlying9 hi hz0 hz1 hz2 _ _ _ rfl ho9 sq rfl (by unfold maxLen; omega) (by omega) hb9 ?_; intro v' w' hn' hg' _)
          go_roundw
          case rel => exact ⟨j + 1, by omega, by go_num, by rw [hst3.out]; exact h9.out.put sq hn' hg'⟩
          case measure => simp [intOf]; omega
        · obtain rfl : m = j := by omega
          have hfull : (RW.bl l).take m = RW.bl l := List.take_of_length_le (by rw [RW.bl_len, ← hmeH.out]; omega)
          have hRl : 1 ≤ R.length := by rw [hRH.out, List.length_append]; omega
          rw [hfull, ← hRH.out] at hEr
          rw [hfull, ← hRH.out]
          obtain ⟨k, hk⟩ : ∃ k, k = R.length := ⟨_, rfl⟩
          have ho := hEr.out.1
          rw [← hk] at ho
          rw [← hk]
          rcases ho.2 with ⟨_, h0⟩ | ⟨g, cap2, cur, hv, _⟩
          · exfalso; omega
          · rw [hv] at ho
            rw [hv]
            have hcs := RW.own_string ho (P := Tryd.prog) 60 9 Tryd.underlying60 Tryd.underlying5 Tryd.underlying9
            have hend := hide hEr.out.2.1.below
            clear ho hEr hk hv hRl hfull
            go_wp2
            go_ret2
            exact ⟨rfl, hend.out⟩
theorem rencode_any (n : Nat → Int) (d : ByteArray) (v : Value) (l : List ByteArray) (w : World) (hv : StrsV w v l) (hl : l.length ≤ 140737488355328) (hs : ∀ s ∈ l, s.size ≤ 9223372036854775807) :
    Calls Tryd.prog 13 #[.agg (RW.mcells n d v)] w fun e w' => e = .returned (encRes RW.k0F n d l) ∧ Below w.heap.size w w' := by
  unfold encRes
  cases hm : RW.msgB RW.k0F n d.data.toList (RW.bl l)
  · exact rencode_no n d v l w hv hl hs hm
  · exact rencode_yes n d v l w hv hl hs hm
end Go.Proofs.YtcbckcojebanaaaDoor

/-
  Package royaltylaw23: sane.
-/
import Derived.Test.YtllbphanfahkkaaGreatDoorJn11
namespace Go.Proofs.YtllbphanfahkkaaGreatDoor
open Go.RowKit RG
namespace RW
def ab : ByteArray := ⟨#[97, 98]⟩
def zs (k : Nat) : ByteArray := strOf (List.replicate k 0)
theorem zs_size (k : Nat) : (zs k).size = k := by rw [zs, strOf_size, List.length_replicate]
section
variable {H : List UInt8 → List UInt8} (hH : ∀ l, (H l).length = 32)
include hH
theorem one_len (h : List UInt8) (r : ByteArray) : (stos H h [r]).length = 33 + (putS r.data.toList).length := by
  show (sto H h r ++ []).length = _
  rw [List.append_nil, sto_len H hH]
theorem ab_len (h : List UInt8) : (stos H h [ab, ⟨#[]⟩]).length = 70 := by
  show (sto H h ab ++ (sto H (chn H h ab) ⟨#[]⟩ ++ [])).length = 70
  rw [List.append_nil, List.length_append, sto_len H hH, sto_len H hH, show (putS ab.data.toList).length = 3 by decide +kernel, show (putS (⟨#[]⟩ : ByteArray).data.toList).length = 1 by decide +kernel]
theorem z96_len (h : List UInt8) : (stos H h [zs 96]).length = 131 := by
  rw [one_len hH, show (putS (zs 96).data.toList).length = 98 by decide +kernel]
theorem z95_len (h : List UInt8) : (stos H h [zs 95]).length = 130 := by
  rw [one_len hH, show (putS (zs 95).data.toList).length = 97 by decide +kernel]
/-- the fixed calls, plain -/
theorem sane_plain : ∃ S1 S3 : Dk, JInv H 200 S1 [ab, ⟨#[]⟩] ∧ japp H 200 (dk0 200) [] false [ab, ⟨#[]⟩] = (0, [ab, ⟨#[]⟩], false, S1) ∧ japp H 200 S1 [ab, ⟨#[]⟩] false [zs 96] = (231, [ab, ⟨#[]⟩], false, S1) ∧
    JInv H 200 S3 [ab, ⟨#[]⟩, zs 95] ∧ japp H 200 S1 [ab, ⟨#[]⟩] false [zs 95] = (0, [ab, ⟨#[]⟩, zs 95], false, S3) ∧ S3.left = 0 ∧
    (stos H z32 [ab, ⟨#[]⟩]).length = 70 ∧ (stos H z32 [ab, ⟨#[]⟩, zs 95]).length = 200 := by
  have h70 := ab_len hH z32
  obtain ⟨S1, h1, h2, h3⟩ := japp_fit hH (inv_dk0 (H := H) 200) rfl (l := [ab, ⟨#[]⟩]) (fun r hr => by
    rcases List.mem_cons.1 hr with rfl | hr
    · decide
    rcases List.mem_cons.1 hr with rfl | hr
    · decide
    · cases hr) (by show 0 + (stos H z32 [ab, ⟨#[]⟩]).length ≤ 200; rw [h70]; decide)
  obtain ⟨S3, g1, g2, g3⟩ := japp_fit hH h2 h3 (l := [zs 95]) (fun r hr => by
    rcases List.mem_cons.1 hr with rfl | hr
    · rw [zs_size]; decide
    · cases hr) (by show (stos H z32 [ab, ⟨#[]⟩]).length + _ ≤ 200; rw [h70, z95_len hH]; decide)
  refine ⟨S1, S3, h2, h1, japp_full (no_long (fun r hr => by
    rcases List.mem_cons.1 hr with rfl | hr
    · rw [zs_size]; decide
    · cases hr)) (by rw [h70, z96_len hH]; decide), g2, g1, g3, h70, ?_⟩
  have e : stos H z32 ([ab, ⟨#[]⟩] ++ [zs 95]) = _ := stos_app H [ab, ⟨#[]⟩] [zs 95] z32
  show (stos H z32 ([ab, ⟨#[]⟩] ++ [zs 95])).length = 200
  rw [e, List.length_append, h70, z95_len hH]
omit hH
theorem bad_open {n : Nat} {S : Dk} {rs : List ByteArray} (h : JInv H n S rs) (h0 : S.left = 0) (hn : 1 ≤ n) : ∃ S4 : Dk, S.write n 0 ⟨#[2]⟩ = (0, S4) ∧ jopen H n S4 = (232, none, S4) ∧ S4.pend.length = 1 := by
  have hv : S.vis.length = n := by rw [h.vis, cont_len H h.fits]
  obtain ⟨x, t, hx⟩ : ∃ x t, S.vis = x :: t := by
    cases hq : S.vis with
    | nil => rw [hq] at hv; simp at hv; omega
    | cons x t => exact ⟨x, t, rfl⟩
  refine ⟨⟨false, 0, S.dur, 2 :: t, [(0, ⟨#[2]⟩)]⟩, ?_, ?_, rfl⟩
  · unfold Dk.write
    rw [if_neg (by rw [h.off]; simp), if_pos ((insB_iff n _ _).2 ⟨by omega, by decide, by omega, by show (1 : Int) ≤ _; omega⟩), h.off, h0, h.pend, hx]
    rfl
  · unfold jopen
    simp only [Bool.false_eq_true, if_false, ldL_bad H z32 t (show (2 : UInt8) ≠ 0 by decide) (show (2 : UInt8) ≠ 1 by decide)]
end
end RW
theorem cell_ltJ {W : World} {g i : Nat} {v : Value} (h : W.cell? ⟨g, i, none⟩ = some v) : g < W.heap.size := by
  refine Decidable.byContradiction fun hn => ?_
  simp [World.cell?, Array.getElem?_eq_none (Nat.le_of_not_lt hn)] at h
theorem strR_new (W : World) (l : List ByteArray) (n : Nat) (hn : n = l.length) : StrR (W.alloc (.cells (l.map Value.string).toArray 9)) (.slice (some ⟨W.heap.size, 0, none⟩) n n) l := by
  subst hn
  refine ⟨_, _, rfl, Nat.le_refl _, .inr ⟨W.heap.size, 0, rfl, by rw [alloc_size]; omega, fun i x hi j u hj => ?_⟩⟩
  rcases j with _ | j
  · simp at hj
    subst hj
    rw [Nat.mul_one, Nat.add_zero, Nat.zero_add, cellAt (alloc_at1 W _) i]
    simp [hi]
  · simp at hj
theorem strR_nil (W : World) : StrR W (.slice none 0 0) [] := RowV.nil W
theorem conv_zs (W : World) (k : Nat) : (convert 39 9 (.slice (some ⟨W.heap.size, 0, none⟩) k k)).run Tryz.prog (W.alloc (.cells (RW.byl (List.replicate k 0)).toArray 5)) = .ok (.string (RW.zs k)) (W.alloc (.cells (RW.byl (List.replicate k 0)).toArray 5)) := by
  have h1 := run_conv (W.alloc (.cells (RW.byl (List.replicate k 0)).toArray 5)) W.heap.size (List.replicate k 0) (alloc_at1 _ _) 0 k k (by simp)
  rwa [List.drop_zero, List.take_of_length_le (by simp)] at h1
theorem strR_new2 (W : World) (c : Obj) (l : List ByteArray) (n : Nat) (hn : n = l.length) : StrR ((W.alloc c).alloc (.cells (l.map Value.string).toArray 9)) (.slice (some ⟨W.heap.size + 1, 0, none⟩) n n) l := by
  have h := strR_new (W.alloc c) l n hn
  rwa [alloc_size] at h
set_option maxRecDepth 100000 in
set_option maxHeartbeats 8000000 in
theorem sane_any (K : Nat → Int) (ks : Array Value) (hks : RW.WsOk ks K) (a : Addr) (w : World) (hK : KLaid w ks) (hg : w.cell? ⟨1, 0, none⟩ = some (RW.jeW a)) :
    Calls Tryz.prog 9 #[] w fun e w' => e = .returned (.bool true) ∧ Below w.heap.size w w' := by
  obtain ⟨S1, S3, hI1, hA1, hA2, hI3, hA3, hl3, h70, h200⟩ := RW.sane_plain (RW.sha_len K)
  obtain ⟨S4, hW4, hO4, hp4⟩ := RW.bad_open hI3 hl3 (by decide)
  have hI1 := hide hI1
  have hA1 := hide hA1
  have hA2 := hide hA2
  have hI3 := hide hI3
  have hA3 := hide hA3
  have h70 := hide h70
  have h200 := hide h200
  have hW4 := hide hW4
  have hO4 := hide hO4
  have hp4 := hide hp4
  obtain ⟨B, hB⟩ : ∃ B, B = w.heap.size := ⟨_, rfl⟩
  have hBH := hide hB
  have hnx := hide (fun W (hW : Below B w W) => (show KLaid W ks ∧ W.cell? ⟨1, 0, none⟩ = some (RW.jeW a) from ⟨RW.jklaid hK hW (Nat.le_of_eq hBH.out.symm), by
    have hgl : 1 < w.heap.size := cell_ltJ hg
    exact (World.cell?_of_block (a := ⟨1, 0, none⟩) (hW.block _ (by rw [hBH.out]; exact hgl))).trans hg⟩))
  have hN := hide (new_any 200 (by decide) (by decide) w)
  rw [← hB] at hN ⊢
  clear hK hg hB hl3
  go_enter Tryz.func9, Tryz.ntmps9
  go_upto_region 2 with (go_at_call 25; refine hN.out.mono ?_; rintro e w1 ⟨b, rfl, hd1, hB1⟩; obtain ⟨db, vb, hd1⟩ := hd1; have hD1 := hide hd1; have hB1H := hide hB1; clear hd1 hB1)
  have hOp := hide (open_inv hks hD1.out (RW.inv_dk0 200) (hnx.out w1 hB1H.out).1 (hnx.out w1 hB1H.out).2)
  go_upto_region 3 with (go_at_call 26; refine hOp.out.mono ?_; rintro e w2 ⟨jb, rfl, h2, ht2⟩; have hJ2 := hide (show JW K B b 200 db vb jb (RW.dk0 200) [] false w w2 from ⟨h2.d, h2.j, hB1H.out.trans h2.bel⟩); clear h2 ht2)
  clear hOp hN hD1 hB1H
  have hRc := hide (hJ2.out.records (Nat.zero_le _))
  have hRm := hide (fun W (h : JW K B b 200 db vb jb (RW.dk0 200) [] false w W) => h.room (Nat.zero_le _))
  go_upto_region 5 with (first
    | (go_at_call 20; refine hRc.out.mono ?_; rintro e w3 ⟨u, rfl, h3, h4, h5⟩; obtain ⟨ua, uc, eu⟩ := own_shape h3; subst eu; have hJ3 := hide h4; clear h3 h4 h5)
    | (go_at_call 21; refine (hRm.out _ hJ3.out).mono ?_; rintro e w4 ⟨rfl, h4, h5⟩; have hJ4 := hide h4; clear h4 h5))
  have hAp := hide (show Calls Tryz.prog 11 #[.pointer (some ⟨jb, 0, none⟩), .slice (some ⟨w4.heap.size, 0, none⟩) 2 2] (w4.alloc (.cells #[.string ⟨#[97, 98]⟩, .string ⟨#[]⟩] 9)) fun e w' => e = .returned (.int .i64 0) ∧ JW K B b 200 db vb jb S1 [RW.ab, ⟨#[]⟩] false w w' from by
    have hj : JW K B b 200 db vb jb (RW.dk0 200) [] false w (w4.alloc (.cells #[.string ⟨#[97, 98]⟩, .string ⟨#[]⟩] 9)) := (hJ4.out.next (alloc_bel (Below.refl _ _) (Nat.le_refl _) _))
    refine (hj.append hks (by decide) (Nat.zero_le _) (strR_new w4 [RW.ab, ⟨#[]⟩] 2 rfl) (by decide) (hnx.out _ hj.bel).1).mono ?_
    rintro e w' ⟨h1, h2, _, _⟩
    rw [hA1.out] at h1 h2
    exact ⟨h1, h2⟩)
  go_upto_region 6 with (go_at_call 11; refine hAp.out.mono ?_; rintro e w5 ⟨rfl, h5⟩; have hJw5 := hide h5; clear h5)
  clear hAp hJ4
  obtain ⟨Z96, hZ⟩ : ∃ Z : List UInt8, Z = List.replicate 96 0 := ⟨_, rfl⟩
  have hmk : (Instr.makeSlice 39 (.int .i64 96) (.int .i64 96)).run Tryz.prog w5 = .ok (.slice (some ⟨w5.heap.size, 0, none⟩) 96 96) (w5.alloc (.cells (RW.byl Z96).toArray 5)) := by rw [hZ]; exact run_make_by 96 (by decide) w5
  have hcv : (convert 39 9 (.slice (some ⟨w5.heap.size, 0, none⟩) 96 96)).run Tryz.prog (w5.alloc (.cells (RW.byl Z96).toArray 5)) = .ok (.string (RW.zs 96)) (w5.alloc (.cells (RW.byl Z96).toArray 5)) := by rw [hZ]; exact conv_zs w5 96
  clear hZ
  have hAp := hide (show Calls Tryz.prog 11 #[.pointer (some ⟨jb, 0, none⟩), .slice (some ⟨w5.heap.size + 1, 0, none⟩) 1 1] ((w5.alloc (.cells (RW.byl Z96).toArray 5)).alloc (.cells #[.string (RW.zs 96)] 9)) fun e w' => e = .returned (.int .i64 231) ∧ JW K B b 200 db vb jb S1 [RW.ab, ⟨#[]⟩] false w w' from by
    have hj : JW K B b 200 db vb jb S1 [RW.ab, ⟨#[]⟩] false w ((w5.alloc (.cells (RW.byl Z96).toArray 5)).alloc (.cells #[.string (RW.zs 96)] 9)) := ((hJw5.out.next (alloc_bel (Below.refl _ _) (Nat.le_refl _) _)).next (alloc_bel (Below.refl _ _) (Nat.le_refl _) _))
    refine (hj.append hks (by rw [hI1.out.pend]; decide) (by rw [h70.out]; decide) (strR_new2 w5 _ [RW.zs 96] 1 rfl) (by decide) (hnx.out _ hj.bel).1).mono ?_
    rintro e w' ⟨h1, h2, _, _⟩
    rw [hA2.out] at h1 h2
    exact ⟨h1, h2⟩)
  go_upto_region 7 with (go_at_call 11; refine hAp.out.mono ?_; rintro e w6 ⟨rfl, h5⟩; have hJw6 := hide h5; clear h5)
  clear hAp hJw5
  clear hmk hcv
  have hRm2 := hide (hJw6.out.room (by rw [h70.out]; decide))
  rw [h70.out, show (((200 : Nat) : Int) - ((70 : Nat) : Int)) = 130 from rfl] at hRm2
  go_upto_region 8 with (go_at_call 21; refine hRm2.out.mono ?_; rintro e w7 ⟨rfl, h4, h5⟩; have hJw7 := hide h4; clear h4 h5)
  clear hRm2 hRm hRc hJw6 hJ3 hJ2
  obtain ⟨Z95, hZ⟩ : ∃ Z : List UInt8, Z = List.replicate 95 0 := ⟨_, rfl⟩
  have hmk : (Instr.makeSlice 39 (.int .i64 95) (.int .i64 95)).run Tryz.prog w7 = .ok (.slice (some ⟨w7.heap.size, 0, none⟩) 95 95) (w7.alloc (.cells (RW.byl Z95).toArray 5)) := by rw [hZ]; exact run_make_by 95 (by decide) w7
  have hcv : (convert 39 9 (.slice (some ⟨w7.heap.size, 0, none⟩) 95 95)).run Tryz.prog (w7.alloc (.cells (RW.byl Z95).toArray 5)) = .ok (.string (RW.zs 95)) (w7.alloc (.cells (RW.byl Z95).toArray 5)) := by rw [hZ]; exact conv_zs w7 95
  clear hZ
  have hAp := hide (show Calls Tryz.prog 11 #[.pointer (some ⟨jb, 0, none⟩), .slice (some ⟨w7.heap.size + 1, 0, none⟩) 1 1] ((w7.alloc (.cells (RW.byl Z95).toArray 5)).alloc (.cells #[.string (RW.zs 95)] 9)) fun e w' => e = .returned (.int .i64 0) ∧ JW K B b 200 db vb jb S3 [RW.ab, ⟨#[]⟩, RW.zs 95] false w w' from by
    have hj : JW K B b 200 db vb jb S1 [RW.ab, ⟨#[]⟩] false w ((w7.alloc (.cells (RW.byl Z95).toArray 5)).alloc (.cells #[.string (RW.zs 95)] 9)) := ((hJw7.out.next (alloc_bel (Below.refl _ _) (Nat.le_refl _) _)).next (alloc_bel (Below.refl _ _) (Nat.le_refl _) _))
    refine (hj.append hks (by rw [hI1.out.pend]; decide) (by rw [h70.out]; decide) (strR_new2 w7 _ [RW.zs 95] 1 rfl) (by decide) (hnx.out _ hj.bel).1).mono ?_
    rintro e w' ⟨h1, h2, _, _⟩
    rw [hA3.out] at h1 h2
    exact ⟨h1, h2⟩)
  go_upto_region 9 with (go_at_call 11; refine hAp.out.mono ?_; rintro e w8 ⟨rfl, h5⟩; have hJw8 := hide h5; clear h5)
  clear hAp hJw7
  clear hmk hcv
  have hOp := hide (show Calls Tryz.prog 26 #[.pointer (some ⟨b, 0, none⟩)] w8 fun e w' => ∃ j2, e = .returned (.tuple #[.pointer (some ⟨j2, 0, none⟩), .int .i64 0]) ∧ JW K B b 200 db vb j2 S3 [RW.ab, ⟨#[]⟩, RW.zs 95] false w w' ∧ JW K B b 200 db vb jb S3 [RW.ab, ⟨#[]⟩, RW.zs 95] false w w' from by
    obtain ⟨pv, hd⟩ := hJw8.out.d
    refine (open_inv hks hd hI3.out (hnx.out _ hJw8.out.bel).1 (hnx.out _ hJw8.out.bel).2).mono ?_
    rintro e w' ⟨j2, h1, h2, h3⟩
    exact ⟨j2, h1, ⟨h2.d, h2.j, hJw8.out.bel.trans h2.bel⟩, hJw8.out.tch h2.d h3 h2.bel⟩)
  go_upto_region 12 with (go_at_call 26; refine hOp.out.mono ?_; rintro e w9 ⟨j2, rfl, h2, h3⟩; have hL9 := hide h2; have hJ9 := hide h3; clear h2 h3)
  clear hOp hJw8
  have hWr := hide (show Calls Tryz.prog 14 #[.pointer (some ⟨b, 0, none⟩), .int .i64 0, .string ⟨#[2]⟩] w9 fun e w' => e = .returned (.int .i64 0) ∧ JW K B b 200 db vb j2 S4 [RW.ab, ⟨#[]⟩, RW.zs 95] false w w' ∧ JW K B b 200 db vb jb S4 [RW.ab, ⟨#[]⟩, RW.zs 95] false w w' from by
    refine (hJ9.out.write 0 ⟨#[2]⟩ (by rw [hI3.out.pend]; decide) (by decide)).mono ?_
    rintro e w' ⟨h1, h2, h3, h4⟩
    rw [hW4.out] at h1 h2
    exact ⟨h1, hL9.out.tch h2.d h4 h3, h2⟩)
  go_upto_region 13 with (go_at_call 14; refine hWr.out.mono ?_; rintro e w10 ⟨rfl, h2, h3⟩; have hL10 := hide h2; have hJ10 := hide h3; clear h2 h3)
  clear hWr hL9 hJ9
  have hOb := hide (show Calls Tryz.prog 26 #[.pointer (some ⟨b, 0, none⟩)] w10 fun e w' => e = .returned (.tuple #[.pointer none, .int .i64 232]) ∧ JW K B b 200 db vb j2 S4 [RW.ab, ⟨#[]⟩, RW.zs 95] false w w' ∧ JW K B b 200 db vb jb S4 [RW.ab, ⟨#[]⟩, RW.zs 95] false w w' from by
    obtain ⟨pv, hd⟩ := hJ10.out.d
    refine (Open_any B b 200 db vb pv S4 a K ks hks w10 hd (by rw [hp4.out]; decide) (hnx.out _ hJ10.out.bel).1 (hnx.out _ hJ10.out.bel).2).mono ?_
    rintro e w' ⟨h1, h2, h3, h4⟩
    rw [hO4.out] at h1 h4
    rcases h4 with ⟨_, _, h5⟩ | ⟨_, _, _, _, h5, _⟩
    · exact ⟨h5, hL10.out.tch h1 h2 h3, hJ10.out.tch h1 h2 h3⟩
    · cases h5)
  go_upto_region 14 with (go_at_call 26; refine hOb.out.mono ?_; rintro e w11 ⟨rfl, h2, h3⟩; have hL11 := hide h2; have hJ11 := hide h3; clear h2 h3)
  clear hOb hL10 hJ10
  go_upto_region 15 with (go_at_call 26; refine (Open_nil _).mono ?_; rintro e w12 ⟨rfl, rfl⟩)
  have hRm3 := hide (hJ11.out.room (by rw [h200.out]; decide))
  rw [h200.out, show (((200 : Nat) : Int) - ((200 : Nat) : Int)) = 0 from rfl] at hRm3
  have hRc3 := hide (fun W (h : JW K B b 200 db vb j2 S4 [RW.ab, ⟨#[]⟩, RW.zs 95] false w W) => h.records (by rw [h200.out]; decide))
  have eab : RW.ab = ⟨#[97, 98]⟩ := rfl
  go_wp2_with (first
    | (go_at_call 21; refine hRm3.out.mono ?_; rintro e w13 ⟨rfl, h4, h5⟩; have hL13 := hide (hL11.out.next h5); clear h4 h5)
    | (go_at_call 20; refine (hRc3.out _ hL13.out).mono ?_; rintro e w14 ⟨u, rfl, h3, h4, h5⟩; obtain ⟨g, o, c, eu, hc⟩ := strR_cell (W' := w14) (strs_own h3) (show [RW.ab, ⟨#[]⟩, RW.zs 95][0]? = some RW.ab from rfl); subst eu; have cc := hc _ (Below.refl _ _); rw [eab, Nat.add_zero] at cc; have hL13 := hide h4; clear h3 h4 h5 hc))
  go_ret
  exact ⟨rfl, hL13.out.bel⟩
end Go.Proofs.YtllbphanfahkkaaGreatDoor

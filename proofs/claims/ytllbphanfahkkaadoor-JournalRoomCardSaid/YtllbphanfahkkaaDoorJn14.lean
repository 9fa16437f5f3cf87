/-
  Package royaltylaw23: JournalRoom.
-/
import Derived.Test.YtllbphanfahkkaaDoorJn13
namespace Go.Proofs.YtllbphanfahkkaaDoor
open Go.RowKit RG
theorem run_app_atJ {P : Program} {α : Type} {k : Nat} {enc : α → List Value} {t e : TypeId} {z : Value} {bytes : Nat} (ty : TypeId) (ht : P.underlying t = some (.slice e)) (hinfo : (P.info? e).map (fun i => (i.zero, i.size, i.bytes)) = some (some z, k, bytes)) (hzs : z.cells.size = k) (h0 : 0 < k)
    (hk : ∀ x, (enc x).length = k) (hone : ∀ x, ∀ u ∈ enc x, u.oneCell' = true) {W : World} {B : Nat} {v y : Value} {l m : List α} (hown : W.ownsRow B e k v l.length (rowCells enc l)) (hB : B ≤ W.heap.size) (hy : RowV k enc W y m)
    (hlen : l.length + m.length ≤ maxLen) (hby : (l.length + m.length) * bytes ≤ 140737488355328) :
    ∃ v' W', (Builtin.append_ #[t, t] ty #[v, y]).run P W = .ok v' W' ∧ W'.ownsRow B e k v' (l ++ m).length (rowCells enc (l ++ m)) ∧ Below B W W' ∧ W.grownBy W' v.ownBlock ∧ (v'.ownBlock = v.ownBlock ∨ v'.ownBlock = some W.heap.size) := by
  obtain ⟨i0, hi, hz0, hz1, hz2⟩ := info_parts hinfo
  obtain ⟨a, c, rfl, _, ha⟩ := hy
  cases a with
  | some ad =>
    have hnews : ∀ j u, (rowCells enc m)[j]? = some u → W.cell? (ad.add j) = some u := by
      rcases ha with rfl | ⟨b, o, hab, _, hc⟩
      · intro j u hj; simp [rowCells] at hj
      · cases hab
        exact rowV_cells hk h0 hc
    obtain ⟨v', w3, hr, h2, h3, _, h6⟩ := run_append_own_at (P := P) W B t ty e i0 z k bytes ht hi hz0 hz1 hz2 hzs h0 v l.length (rowCells enc l) hown ad m.length c (rowCells enc m) (rowCells_len hk m) hnews (rowCells_one hone m) hlen hby hB
    refine ⟨v', w3, hr, ?_, (Below.refl B W).grown h3 hB (fun k hk => (hown.lt k hk).1), h3, h6⟩
    rw [rowCells_append, List.length_append]
    exact h2
  | none =>
    obtain rfl : m = [] := by
      rcases ha with rfl | ⟨b, o, hab, _⟩
      · rfl
      · cases hab
    have hown2 := hown
    rcases hown.2 with ⟨rfl, h00⟩ | ⟨g, cap, cur, rfl, _, hg, hn, _⟩
    · obtain rfl := List.length_eq_zero_iff.1 h00
      refine ⟨.slice none 0 0, W, ?_, by simpa using hown2, Below.refl _ _, ⟨rfl, rfl, rfl, Nat.le_refl _, fun _ _ _ => rfl⟩, .inl rfl⟩
      have hs : Src P i0.size t (.slice none 0 c) 0 [] W := Src.ofNil W ht c
      simp [Builtin.append_, run_underlying ht, sizeOf, typeInfo, hi, hs.len, hs.cells]
    · have hr := run_append_room_src (P := P) W t t ty e i0 ht hi g 0 l.length cap (.slice none 0 c) 0 [] (by rw [hz1]; exact Src.ofNil W ht c) (by omega) (by simp) (by simp)
      exact ⟨_, _, hr, by simpa [World.setCells] using hown2, Below.refl _ _, ⟨rfl, rfl, rfl, Nat.le_refl _, fun _ _ _ => rfl⟩, .inl rfl⟩
theorem rowCells_str (l : List ByteArray) : rowCells (fun s : ByteArray => [Value.string s]) l = l.map Value.string := by
  unfold rowCells
  induction l with
  | nil => rfl
  | cons a t ih => rw [List.flatMap_cons, ih]; rfl
theorem run_app_rowS {W : World} {B : Nat} {v y : Value} {l m : List ByteArray} (hown : StrsOwn W B v l) (hB : B ≤ W.heap.size) (hy : StrR W y m) (hlen : l.length + m.length ≤ 1000000) :
    ∃ v' W', (Builtin.append_ #[22, 22] 22 #[v, y]).run Tryd.prog W = .ok v' W' ∧ StrsOwn W' B v' (l ++ m) ∧ Below B W W' ∧ W.grownBy W' v.ownBlock := by
  obtain ⟨v', W', h1, h2, h3, h4, _⟩ := run_app_atJ (P := Tryd.prog) (enc := fun s : ByteArray => [Value.string s]) 22 Tryd.underlying22 str_info rfl (by decide) (fun _ => rfl) (fun _ u hu => by simp at hu; subst hu; rfl) (by rw [rowCells_str]; exact hown) hB hy (by unfold maxLen; omega) (by omega)
  rw [rowCells_str] at h2
  exact ⟨v', W', h1, h2, h3, h4⟩
namespace RW
/-- Cut(0), then an attempt -/
theorem off_app {H : List UInt8 → List UInt8} {n : Nat} {S : Dk} {rs : List ByteArray} (hH : ∀ l, (H l).length = 32) (h : JInv H n S rs) : ∃ S5 : Dk, S.cut 0 = (0, S5) ∧ S5.pend = [] ∧
    (n - (stos H z32 rs).length < 35 → japp H n S5 rs false [⟨#[120]⟩] = (231, rs, false, S5)) ∧ (¬ (n - (stos H z32 rs).length < 35) → japp H n S5 rs false [⟨#[120]⟩] = (221, rs, true, S5)) := by
  have hl : ∀ r ∈ [(⟨#[120]⟩ : ByteArray)], r.size ≤ 65536 := fun r hr => by
    rcases List.mem_cons.1 hr with rfl | hr
    · decide
    · cases hr
  have h35 : (stos H (hds H z32 rs) [⟨#[120]⟩]).length = 35 := by
    rw [one_len hH, show (putS (⟨#[120]⟩ : ByteArray).data.toList).length = 2 by decide +kernel]
  refine ⟨⟨true, 0, S.dur, S.vis, S.pend⟩, ?_, h.pend, fun hs => japp_full (no_long hl) (by rw [h35]; exact hs), fun hs => ?_⟩
  · unfold Dk.cut
    rw [if_neg (by rw [h.off]; simp), if_neg (by decide)]
    rfl
  · rw [japp_wr (no_long hl) (by rw [h35]; exact hs) (by simp) rfl]
    have e : wrsy n ⟨true, 0, S.dur, S.vis, S.pend⟩ ((stos H z32 rs).length + 1) ((stos H (hds H z32 rs) [⟨#[120]⟩]).drop 1) = (221, ⟨true, 0, S.dur, S.vis, S.pend⟩) := by
      unfold wrsy Dk.write
      simp
    rw [e]
    simp
end RW
set_option maxRecDepth 100000 in
set_option maxHeartbeats 8000000 in
theorem room_law (c d : Int) (hc : -9223372036854775808 ≤ c) (hc2 : c ≤ 9223372036854775807) (hd : -9223372036854775808 ≤ d) (hd2 : d ≤ 9223372036854775807) (lv : Value) (l : List ByteArray) (hll : l.length ≤ 9223372036854775807) (K : Nat → Int) (ks : Array Value) (hks : RW.WsOk ks K) (a : Addr) (w : World) (hl : StrR w lv l) (hK : KLaid w ks) (hg : w.cell? ⟨0, 0, none⟩ = some (RW.jeW a)) :
    Calls Tryd.prog 3 #[.int .i64 c, lv, .int .i64 d] w fun e w' => e = .returned (.bool true) ∧ Below w.heap.size w w' := by
  obtain ⟨z, hz⟩ : ∃ z : Nat, 1 + RW.pickI c 1500 = (z : Int) := ⟨(1 + RW.pickI c 1500).toNat, by have := RW.pickI_bd c 1500 (by decide); omega⟩
  obtain ⟨pk, hpk⟩ : ∃ z : Nat, RW.pickI d 100 = (z : Int) := ⟨(RW.pickI d 100).toNat, by have := RW.pickI_bd d 100 (by decide); omega⟩
  have hpkb := hide (show pk ≤ 99 by have := RW.pickI_bd d 100 (by decide); omega)
  have hzb := hide (show 1 ≤ z ∧ z ≤ 1500 by have := RW.pickI_bd c 1500 (by decide); omega)
  have hSz := hide (fun W => lsize_any c hc hc2 z hz W)
  have hPk := hide (fun W => pick_any d 100 hd hd2 (by decide) (by decide) W)
  rw [hpk] at hPk
  have hgl := hide (cell_ltJ hg)
  have hnx0 := hide (fun W (hW : Below w.heap.size w W) => (show KLaid W ks ∧ W.cell? ⟨0, 0, none⟩ = some (RW.jeW a) ∧ StrR W lv l from ⟨RW.jklaid hK hW (Nat.le_refl _), (World.cell?_of_block (a := ⟨0, 0, none⟩) (hW.block _ hgl.out)).trans hg, hl.next hW⟩))
  have hSn := hide (sane_any K ks hks a w hK hg)
  clear hK hg hl hz hgl hpk
  go_enter Tryd.func3, Tryd.ntmps3
  go_upto_region 2 with (go_at_call 5; refine hSn.out.mono ?_; rintro e w1 ⟨rfl, hB1⟩; have hB1H := hide hB1; clear hB1)
  obtain ⟨B, hB⟩ : ∃ B, B = w1.heap.size := ⟨_, rfl⟩
  have hBH := hide hB
  have hwB := hide (show w.heap.size ≤ B by rw [hB]; exact hB1H.out.size)
  have hnx := hide (fun W (hW : Below B w1 W) => hnx0.out W (hB1H.out.trans (hW.mono hwB.out)))
  have hN := hide (new_any z hzb.out.1 (by have := hzb.out.2; omega) w1)
  rw [← hB] at hN
  clear hB hSn hnx0
  go_upto_region 3 with (first
    | (go_at_call 7; refine (hSz.out _).mono ?_; rintro e w' ⟨rfl, rfl⟩)
    | (go_at_call 6; refine hN.out.mono ?_; rintro e w2 ⟨b, rfl, hd1, hB2⟩; obtain ⟨db, vb, hd1⟩ := hd1; have hD2 := hide hd1; have hB2H := hide hB2; clear hd1 hB2))
  have hOp := hide (open_inv hks hD2.out (RW.inv_dk0 z) (hnx.out w2 hB2H.out).1 (hnx.out w2 hB2H.out).2.1)
  go_upto_region 4 with (go_at_call 8; refine hOp.out.mono ?_; rintro e w3 ⟨jb, rfl, h2, ht2⟩; have hJ3 := hide (show JW K B b z db vb jb (RW.dk0 z) [] false w1 w3 from ⟨h2.d, h2.j, hB2H.out.trans h2.bel⟩); clear h2 ht2)
  clear hOp hN hD2 hB2H
  have hF := hide (few_any lv l w3 (hnx.out w3 hJ3.out.bel).2.2 hll)
  obtain ⟨L, hL⟩ : ∃ L, L = RW.fewL l := ⟨_, rfl⟩
  have hLl := hide (show L.length ≤ 6 by rw [hL]; exact RW.fewL_len l)
  have hLs := hide (show ∀ s ∈ L, s.size ≤ 100 by rw [hL]; exact RW.fewL_size l)
  rw [← hL] at hF
  obtain ⟨N, hN⟩ : ∃ N, N = w3.heap.size := ⟨_, rfl⟩
  have hNB := hide (show B ≤ N by rw [hN]; exact hJ3.out.hB)
  rw [← hN] at hF
  have hNH := hide hN
  clear hL hN
  obtain ⟨m, hm⟩ : ∃ m, m = L.length := ⟨_, rfl⟩
  have hmH := hide hm
  have hm6 : m ≤ 6 := by rw [hm]; exact hLl.out
  clear hm
  go_wp2_with (go_at_call 9; refine hF.out.mono ?_; rintro e w4 ⟨u, rfl, h3, h4⟩; obtain ⟨ua, uc, eu⟩ := own_shape h3; rw [← hmH.out] at eu; subst eu; have hu4 := hide h3; have hJ4 := hide (hJ3.out.next (by rw [hNH.out] at h4; exact h4)); clear h3 h4)
  clear hF hJ3
  go_loopw [12, 13] (fun need i wr => ∃ (j : Nat), i = .int .i64 j ∧ need = .int .i64 ((RW.stos (RW.sha K) RW.z32 (L.take j)).length : Int) ∧ j ≤ m ∧ Hid (JW K B b z db vb jb (RW.dk0 z) [] false w1 wr ∧ StrsOwn wr N (.slice ua m uc) L)) (fun _ i _ => m - (intOf i).toNat)
  case atStart => exact ⟨0, rfl, rfl, Nat.zero_le _, ⟨hJ4.out, hu4.out⟩⟩
  case round =>
    obtain ⟨j, rfl, rfl, hj, hQ⟩ := hrel
    obtain ⟨wo, hwo⟩ : ∃ wo, wo = wr := ⟨_, rfl⟩
    subst hwo
    have hJ := hide hQ.out.1
    have hu := hide hQ.out.2
    obtain ⟨D, hD⟩ : ∃ D, D = (RW.stos (RW.sha K) RW.z32 (L.take j)).length := ⟨_, rfl⟩
    have hDb : D ≤ 393600 := by
      rw [hD]
      have h1 := RW.stos_len_le (RW.sha_len K) (L.take j) RW.z32 (fun r hr => by have := hLs.out r (List.mem_of_mem_take hr); omega)
      have h2 : (L.take j).length ≤ j := by rw [List.length_take]; omega
      omega
    have hDH := hide hD
    rw [← hD]
    clear hQ hJ4 hu4 hD
    by_cases hjm : j < m
    · obtain ⟨r, hr⟩ : ∃ r, L[j]? = some r := ⟨_, List.getElem?_eq_getElem (by rw [← hmH.out]; exact hjm)⟩
      obtain ⟨g0, o0, lc', e', hcell⟩ := strR_cell (W' := wo) (strs_own hu.out) hr
      cases e'
      have hcc := hcell wo (Below.refl _ _)
      have hrs := hLs.out r (List.mem_of_getElem? hr)
      obtain ⟨P, hP⟩ : ∃ P : ByteArray, P = ⟨(RW.putS r.data.toList).toArray⟩ := ⟨_, rfl⟩
      have hPu := hide (rputstr r (by omega) wo)
      rw [← hP] at hPu
      have hPl : P.size = (RW.putS r.data.toList).length := by rw [hP, ← size_list]
      have hPs : P.size ≤ 65600 := by
        rw [hPl]
        have h1 := RW.putI_len (r.data.toList.length : Int)
        have h2 := size_list r
        unfold RW.putS
        rw [List.length_append]
        omega
      have hnew := hide (show ((RW.stos (RW.sha K) RW.z32 (L.take (j + 1))).length : Int) = (D : Int) + 33 + (P.size : Int) by
        rw [RW.take_snocB hr, RW.stos_snoc, List.length_append, RW.sto_len _ (RW.sha_len K), ← hDH.out, hPl]
        omega)
      clear hr hcell hP hPl hrs
      go_wp2_with (go_at_call 10; refine hPu.out.mono ?_; rintro e w5 ⟨rfl, hB5⟩; have hJ5 := hide (hJ.out.next hB5); have hu5 := hide (own_keep hu.out fun g hg => hB5.block g (own_blk hu.out hg).2.1); clear hB5)
      go_roundw
      case rel => exact ⟨j + 1, by go_num, by rw [hnew.out], by omega, ⟨hJ5.out, hu5.out⟩⟩
      case measure => simp [intOf]; omega
    · obtain rfl : m = j := by omega
      have hDL := hide (show D = (RW.stos (RW.sha K) RW.z32 L).length by rw [hDH.out, hmH.out, List.take_length])
      have hzb1 := hzb.out
      obtain ⟨f, rs1, S1, hap, hI1, h01, hcs⟩ : ∃ f rs1 S1, RW.japp (RW.sha K) z (RW.dk0 z) [] false L = (f, rs1, false, S1) ∧ RW.JInv (RW.sha K) z S1 rs1 ∧ S1.left = 0 ∧ ((D ≤ z ∧ f = 0 ∧ (RW.stos (RW.sha K) RW.z32 rs1).length = D) ∨ (z < D ∧ f = 231 ∧ (RW.stos (RW.sha K) RW.z32 rs1).length = 0)) := by
        have hLs' : ∀ r ∈ L, r.size ≤ 65536 := fun r hr => by have := hLs.out r hr; omega
        by_cases hfit : D ≤ z
        · obtain ⟨S', g1, g2, g3⟩ := RW.japp_fit (RW.sha_len K) (RW.inv_dk0 (H := RW.sha K) z) rfl hLs' (by show 0 + (RW.stos (RW.sha K) RW.z32 L).length ≤ z; rw [← hDL.out]; omega)
          exact ⟨0, L, S', g1, g2, g3, .inl ⟨hfit, rfl, hDL.out.symm⟩⟩
        · exact ⟨231, [], RW.dk0 z, RW.japp_full (RW.no_long hLs') (by show z - 0 < (RW.stos (RW.sha K) RW.z32 L).length; rw [← hDL.out]; omega), RW.inv_dk0 z, rfl, .inr ⟨by omega, rfl, rfl⟩⟩
      have hap := hide hap
      have hI1 := hide hI1
      have h01 := hide h01
      have hAp := hide (show Calls Tryd.prog 11 #[.pointer (some ⟨jb, 0, none⟩), .slice ua m uc] wo fun e w' => e = .returned (.int .i64 f) ∧ JW K B b z db vb jb S1 rs1 false w1 w' ∧ StrsOwn w' N (.slice ua m uc) L from by
        refine (hJ.out.append hks (by show 0 < 900000; decide) (Nat.zero_le _) (strs_own hu.out) (by have := hLl.out; omega) (hnx.out _ hJ.out.bel).1).mono ?_
        rintro e w' ⟨rfl, h2, h3, h4⟩
        rw [hap.out] at h2 ⊢
        exact ⟨rfl, h2, own_tchJ hu.out hJ.out h4⟩)
      have hRm := hide (fun W (h : JW K B b z db vb jb S1 rs1 false w1 W) => h.room hI1.out.fits)
      obtain ⟨U, hU⟩ : ∃ U, U = (RW.stos (RW.sha K) RW.z32 rs1).length := ⟨_, rfl⟩
      have hUz : U ≤ z := by rw [hU]; exact hI1.out.fits
      rw [← hU] at hRm hcs
      have hUH := hide hU
      clear hU
      rcases hcs with ⟨hDz, rfl, rfl⟩ | ⟨hDz, rfl, hU0⟩
      · go_upto_region 17 with (first
          | (go_at_call 11; refine hAp.out.mono ?_; rintro e w5 ⟨rfl, h2, h3⟩; have hJ5 := hide h2; have hu5 := hide h3; clear h2 h3)
          | (go_at_call 7; refine (hSz.out _).mono ?_; rintro e w' ⟨rfl, rfl⟩)
          | (go_at_call 12; refine (hRm.out _ hJ5.out).mono ?_; rintro e w6 ⟨rfl, h2, h3⟩; have hu5 := hide (own_keep hu5.out fun g hg => h3.block g (own_blk hu5.out hg).2.1); have hJ5 := hide h2; clear h2 h3))
        have hRc := hide (fun W (h : JW K B b z db vb jb S1 rs1 false w1 W) => h.records hI1.out.fits)
        obtain ⟨NP, hNP⟩ : ∃ x : Nat, x = w6.heap.size := ⟨_, rfl⟩
        go_upto_region 18 with (go_at_call 13; refine (hRc.out _ hJ5.out).mono ?_; rintro e w7 ⟨wv, rfl, h3, h4, h5⟩; rw [← hNP] at h3; have hw7 := hide h3; have hu7 := hide (own_keep hu5.out fun g hg => h5.block g (own_blk hu5.out hg).2.1); have hJ7 := hide h4; clear h3 h4 h5)
        clear hJ hu hAp hap hu5 hJ5 hRc
        obtain ⟨kk, hkk⟩ : ∃ kk : Nat, (65537 : Int) + (pk : Int) = (kk : Int) := ⟨65537 + pk, by omega⟩
        have hpk99 : pk ≤ 99 := hpkb.out
        have hkb := hide (show 65537 ≤ kk ∧ kk ≤ 65636 by have := hpkb.out; omega)
        obtain ⟨Z, hZ⟩ : ∃ Z : List UInt8, Z = List.replicate kk 0 := ⟨_, rfl⟩
        obtain ⟨X, hX⟩ : ∃ X : ByteArray, X = RW.zs kk := ⟨_, rfl⟩
        have hXs := hide (show X.size = kk by rw [hX, RW.zs_size])
        have hmL := hide (show L.length = m from hmH.out.symm)
        have hb0 := hide (alloc_bel (Below.refl w7.heap.size w7) (Nat.le_refl _) (.cells #[] 9))
        have ho0 : StrsOwn (w7.alloc (.cells #[] 9)) w7.heap.size (.slice (some ⟨w7.heap.size, 0, none⟩) 0 0) [] := ⟨rfl, .inr ⟨w7.heap.size, 0, #[], rfl, Nat.le_refl _, alloc_at1 _ _, Nat.le_refl _, by unfold maxLen; omega, rfl, rfl⟩⟩
        obtain ⟨v1, W1, hr1, ho1, hb1, _⟩ := run_app_rowS ho0 hb0.out.size ((strs_own hu7.out).next (hb0.out)) (by have := hLl.out; simp; omega)
        rw [List.nil_append] at ho1
        obtain ⟨a1, c1, e1⟩ := own_shape ho1
        rw [hmL.out] at e1
        subst e1
        have hB1 := hide (hb0.out.trans hb1)
        have hmk : (Instr.makeSlice 38 (.int .i64 (65537 + (pk : Int))) (.int .i64 (65537 + (pk : Int)))).run Tryd.prog W1 = .ok (.slice (some ⟨W1.heap.size, 0, none⟩) kk kk) (W1.alloc (.cells (RW.byl Z).toArray 5)) := by rw [hkk, hZ]; exact run_make_by kk (by have := hkb.out; omega) W1
        have hcv : (convert 38 9 (.slice (some ⟨W1.heap.size, 0, none⟩) kk kk)).run Tryd.prog (W1.alloc (.cells (RW.byl Z).toArray 5)) = .ok (.string X) (W1.alloc (.cells (RW.byl Z).toArray 5)) := by rw [hX, hZ]; exact conv_zs W1 kk
        have hb2 := hide (alloc_bel (alloc_bel (Below.refl W1.heap.size W1) (Nat.le_refl _) (.cells (RW.byl Z).toArray 5)) (Nat.le_refl _) (.cells #[.string X] 9))
        have ho2 : StrsOwn ((W1.alloc (.cells (RW.byl Z).toArray 5)).alloc (.cells #[.string X] 9)) w7.heap.size (.slice a1 m c1) L := own_keep ho1 fun g hg => hb2.out.block g (own_blk ho1 hg).2.1
        obtain ⟨v2, W3, hr2, ho3, hb3, _⟩ := run_app_rowS ho2 (Nat.le_trans hB1.out.size hb2.out.size) (strR_new2 W1 (.cells (RW.byl Z).toArray 5) [X] 1 rfl) (by have := hLl.out; simp; omega)
        obtain ⟨a2, c2, e2⟩ := own_shape ho3
        rw [show (L ++ [X]).length = m + 1 by rw [List.length_append, hmL.out]; rfl] at e2
        subst e2
        have hB3 := hide ((hB1.out.trans (hb2.out.mono hB1.out.size)).trans hb3)
        have hJW3 := hide (hJ7.out.next hB3.out)
        have hA18 := hide (show Calls Tryd.prog 11 #[.pointer (some ⟨jb, 0, none⟩), .slice a2 (m + 1) c2] W3 fun e w' => e = .returned (.int .i64 230) ∧ JW K B b z db vb jb S1 rs1 false w1 w' ∧ StrsOwn w' NP wv rs1 from by
          refine (hJW3.out.append hks (by rw [hI1.out.pend]; decide) hI1.out.fits (strs_own ho3) (by have := hLl.out; simp; omega) (hnx.out _ hJW3.out.bel).1).mono ?_
          rintro e w' ⟨rfl, h2, h3, h4⟩
          rw [RW.japp_long (.inr (by simp; right; have := hXs.out; have := hkb.out; omega))] at h2 ⊢
          exact ⟨rfl, h2, own_tchJ (own_keep hw7.out fun g hg => hB3.out.block g (own_blk hw7.out hg).2.1) hJW3.out h4⟩)
        clear hkk hZ hX ho0 ho1 hb1 ho2 ho3 hb3
        go_upto_region 19 with (first
          | (at_builtin; refine wpList_app_run rfl (.tmp 106) (.tmp 107) rfl rfl rfl hr1 ?_)
          | (at_builtin; refine wpList_app_run rfl (.tmp 108) (.tmp 114) rfl rfl rfl hr2 ?_)
          | (go_at_call 14; refine (hPk.out _).mono ?_; rintro e w' ⟨rfl, rfl⟩)
          | (go_at_call 11; refine hA18.out.mono ?_; rintro e w8 ⟨rfl, h2, h3⟩; have hJ8 := hide h2; have hw8 := hide h3; clear h2 h3))
        clear hr1 hr2 hmk hcv hA18 hJW3 hJ7 hu7 hw7 hB1 hB3 hb0 hb2
        have hA19 := hide (show Calls Tryd.prog 11 #[.pointer (some ⟨jb, 0, none⟩), .slice none 0 0] w8 fun e w' => e = .returned (.int .i64 0) ∧ JW K B b z db vb jb S1 rs1 false w1 w' ∧ StrsOwn w' NP wv rs1 from by
          refine (hJ8.out.append hks (by rw [hI1.out.pend]; decide) hI1.out.fits (strR_nil _) (by decide) (hnx.out _ hJ8.out.bel).1).mono ?_
          rintro e w' ⟨rfl, h2, h3, h4⟩
          rw [RW.japp_none] at h2 ⊢
          exact ⟨rfl, h2, own_tchJ hw8.out hJ8.out h4⟩)
        go_upto_region 20 with (go_at_call 11; refine hA19.out.mono ?_; rintro e w9 ⟨rfl, h2, h3⟩; have hJ9 := hide h2; have hw9 := hide h3; clear h2 h3)
        clear hA19 hJ8 hw8
        obtain ⟨S5, hcu, hp5, hsm, hlg⟩ := RW.off_app (RW.sha_len K) hI1.out
        rw [← hUH.out] at hsm hlg
        have hcu := hide hcu
        have hp5 := hide hp5
        have hC20 := hide (show Calls Tryd.prog 15 #[.pointer (some ⟨b, 0, none⟩), .int .i64 0] w9 fun e w' => e = .returned (.int .i64 0) ∧ JW K B b z db vb jb S5 rs1 false w1 w' ∧ StrsOwn w' NP wv rs1 from by
          refine (hJ9.out.cut 0 (by decide)).mono ?_
          rintro e w' ⟨h1, h2, h3, h4⟩
          rw [hcu.out] at h1 h2
          exact ⟨h1, h2, own_tchJ hw9.out hJ9.out (.of_tch h4)⟩)
        go_upto_region 21 with (go_at_call 15; refine hC20.out.mono ?_; rintro e w10 ⟨rfl, h2, h3⟩; have hJ10 := hide h2; have hw10 := hide h3; clear h2 h3)
        clear hC20 hJ9 hw9
        have hb11 := hide (alloc_bel (Below.refl w10.heap.size w10) (Nat.le_refl _) (.cells #[.string ⟨#[120]⟩] 9))
        have hJ11 := hide (hJ10.out.next hb11.out)
        have hw11 := hide (own_keep hw10.out fun g hg => hb11.out.block g (own_blk hw10.out hg).2.1)
        obtain ⟨rr, hrr⟩ : ∃ rr : Int, (z : Int) - (U : Int) = rr := ⟨_, rfl⟩
        have hrc := hide (show rs1.length ≤ 9223372036854775807 by have := RW.stos_ge (RW.sha K) rs1 RW.z32; have := hI1.out.fits; have := hzb.out.2; omega)
        by_cases hsml : z - U < 35
        · have hs1 := hide (hsm hsml)
          have hlt : rr < 35 := by omega
          have hA21 := hide (show Calls Tryd.prog 11 #[.pointer (some ⟨jb, 0, none⟩), .slice (some ⟨w10.heap.size, 0, none⟩) 1 1] (w10.alloc (.cells #[.string ⟨#[120]⟩] 9)) fun e w' => e = .returned (.int .i64 231) ∧ JW K B b z db vb jb S5 rs1 false w1 w' ∧ StrsOwn w' NP wv rs1 from by
            refine (hJ11.out.append hks (by rw [hp5.out]; decide) hI1.out.fits (strR_new w10 [⟨#[120]⟩] 1 rfl) (by decide) (hnx.out _ hJ11.out.bel).1).mono ?_
            rintro e w' ⟨rfl, h2, h3, h4⟩
            rw [hs1.out] at h2 ⊢
            exact ⟨rfl, h2, own_tchJ hw11.out hJ11.out h4⟩)
          have hRm2 := hide (fun W (h : JW K B b z db vb jb S5 rs1 false w1 W) => h.room hI1.out.fits)
          rw [← hUH.out, hrr] at hRm2
          have hA23 := hide (fun W (h : JW K B b z db vb jb S5 rs1 false w1 W) (hw : StrsOwn W NP wv rs1) => (show Calls Tryd.prog 11 #[.pointer (some ⟨jb, 0, none⟩), .slice none 0 0] W fun e w' => e = .returned (.int .i64 0) ∧ JW K B b z db vb jb S5 rs1 false w1 w' ∧ StrsOwn w' NP wv rs1 from by
            refine (h.append hks (by rw [hp5.out]; decide) hI1.out.fits (strR_nil _) (by decide) (hnx.out _ h.bel).1).mono ?_
            rintro e w' ⟨rfl, h2, h3, h4⟩
            rw [RW.japp_none] at h2 ⊢
            exact ⟨rfl, h2, own_tchJ hw h h4⟩))
          have hRc2 := hide (fun W (h : JW K B b z db vb jb S5 rs1 false w1 W) => h.records hI1.out.fits)
          clear hsm hlg hsml hrr
          go_upto_region 22 with (go_at_call 11; refine hA21.out.mono ?_; rintro e w12 ⟨rfl, h2, h3⟩; have hJ12 := hide h2; have hw12 := hide h3; clear h2 h3)
          go_upto_region 23 with (go_at_call 12; refine (hRm2.out _ hJ12.out).mono ?_; rintro e w13 ⟨rfl, h2, h3⟩; have hw13 := hide (own_keep hw12.out fun g hg => h3.block g (own_blk hw12.out hg).2.1); have hJ13 := hide h2; clear h2 h3)
          go_upto_region 25 with (go_at_call 11; refine (hA23.out _ hJ13.out hw13.out).mono ?_; rintro e w14 ⟨rfl, h2, h3⟩; have hJ14 := hide h2; have hw14 := hide h3; clear h2 h3)
          clear hA21 hA23 hRm2 hJ13 hw13 hJ12 hw12 hJ11 hw11 hJ10 hw10
          go_wp2_with (first
            | (go_at_call 13; refine (hRc2.out _ hJ14.out).mono ?_; rintro e w15 ⟨u15, rfl, h3, h4, h5⟩; have hu15 := hide h3; have hw15 := hide (own_keep hw14.out fun g hg => h5.block g (own_blk hw14.out hg).2.1); have hJ15 := hide h4; clear h3 h4 h5 hJ14)
            | (go_at_call 13; refine (records_nil _).mono ?_; rintro e w' ⟨rfl, rfl⟩)
            | (go_at_call 16; refine (same20_any _ _ rs1 rs1 _ (strs_own hu15.out) (strs_own hw15.out) hrc.out hrc.out).mono ?_; rintro e w16 ⟨rfl, h5⟩; have hJ16 := hide (hJ15.out.next h5); clear h5; rw [decide_eq_true (rfl : rs1 = rs1)])
            | (go_at_call 11; refine (Append_nil _ _).mono ?_; rintro e w' ⟨rfl, rfl⟩)
            | (go_at_call 12; refine (room_nil _).mono ?_; rintro e w' ⟨rfl, rfl⟩))
          go_ret
          exact ⟨rfl, hB1H.out.trans (hJ16.out.bel.mono hwB.out)⟩
        · have hs1 := hide (hlg hsml)
          have hlt : ¬ (rr < 35) := by omega
          have hlt2 : decide (rr < 35) = false := decide_eq_false hlt
          have hA21 := hide (show Calls Tryd.prog 11 #[.pointer (some ⟨jb, 0, none⟩), .slice (some ⟨w10.heap.size, 0, none⟩) 1 1] (w10.alloc (.cells #[.string ⟨#[120]⟩] 9)) fun e w' => e = .returned (.int .i64 221) ∧ JW K B b z db vb jb S5 rs1 true w1 w' ∧ StrsOwn w' NP wv rs1 from by
            refine (hJ11.out.append hks (by rw [hp5.out]; decide) hI1.out.fits (strR_new w10 [⟨#[120]⟩] 1 rfl) (by decide) (hnx.out _ hJ11.out.bel).1).mono ?_
            rintro e w' ⟨rfl, h2, h3, h4⟩
            rw [hs1.out] at h2 ⊢
            exact ⟨rfl, h2, own_tchJ hw11.out hJ11.out h4⟩)
          have hRm2 := hide (fun W (h : JW K B b z db vb jb S5 rs1 true w1 W) => h.room hI1.out.fits)
          rw [← hUH.out, hrr] at hRm2
          have hA23 := hide (fun W (h : JW K B b z db vb jb S5 rs1 true w1 W) (hw : StrsOwn W NP wv rs1) => (show Calls Tryd.prog 11 #[.pointer (some ⟨jb, 0, none⟩), .slice none 0 0] W fun e w' => e = .returned (.int .i64 230) ∧ JW K B b z db vb jb S5 rs1 true w1 w' ∧ StrsOwn w' NP wv rs1 from by
            refine (h.append hks (by rw [hp5.out]; decide) hI1.out.fits (strR_nil _) (by decide) (hnx.out _ h.bel).1).mono ?_
            rintro e w' ⟨rfl, h2, h3, h4⟩
            rw [RW.japp_long (.inl rfl)] at h2 ⊢
            exact ⟨rfl, h2, own_tchJ hw h h4⟩))
          have hRc2 := hide (fun W (h : JW K B b z db vb jb S5 rs1 true w1 W) => h.records hI1.out.fits)
          clear hsm hlg hsml hrr
          go_upto_region 22 with (go_at_call 11; refine hA21.out.mono ?_; rintro e w12 ⟨rfl, h2, h3⟩; have hJ12 := hide h2; have hw12 := hide h3; clear h2 h3)
          go_upto_region 23 with (go_at_call 12; refine (hRm2.out _ hJ12.out).mono ?_; rintro e w13 ⟨rfl, h2, h3⟩; have hw13 := hide (own_keep hw12.out fun g hg => h3.block g (own_blk hw12.out hg).2.1); have hJ13 := hide h2; clear h2 h3)
          go_upto_region 25 with (go_at_call 11; refine (hA23.out _ hJ13.out hw13.out).mono ?_; rintro e w14 ⟨rfl, h2, h3⟩; have hJ14 := hide h2; have hw14 := hide h3; clear h2 h3)
          clear hA21 hA23 hRm2 hJ13 hw13 hJ12 hw12 hJ11 hw11 hJ10 hw10
          go_wp2_with (first
            | (go_at_call 13; refine (hRc2.out _ hJ14.out).mono ?_; rintro e w15 ⟨u15, rfl, h3, h4, h5⟩; have hu15 := hide h3; have hw15 := hide (own_keep hw14.out fun g hg => h5.block g (own_blk hw14.out hg).2.1); have hJ15 := hide h4; clear h3 h4 h5 hJ14)
            | (go_at_call 13; refine (records_nil _).mono ?_; rintro e w' ⟨rfl, rfl⟩)
            | (go_at_call 16; refine (same20_any _ _ rs1 rs1 _ (strs_own hu15.out) (strs_own hw15.out) hrc.out hrc.out).mono ?_; rintro e w16 ⟨rfl, h5⟩; have hJ16 := hide (hJ15.out.next h5); clear h5; rw [decide_eq_true (rfl : rs1 = rs1)])
            | (go_at_call 11; refine (Append_nil _ _).mono ?_; rintro e w' ⟨rfl, rfl⟩)
            | (go_at_call 12; refine (room_nil _).mono ?_; rintro e w' ⟨rfl, rfl⟩))
          go_ret
          exact ⟨rfl, hB1H.out.trans (hJ16.out.bel.mono hwB.out)⟩
      · rw [show ((z : Int) - ((U : Nat) : Int)) = (z : Int) by omega] at hRm
        go_upto_region 17 with (first
          | (go_at_call 11; refine hAp.out.mono ?_; rintro e w5 ⟨rfl, h2, h3⟩; have hJ5 := hide h2; have hu5 := hide h3; clear h2 h3)
          | (go_at_call 7; refine (hSz.out _).mono ?_; rintro e w' ⟨rfl, rfl⟩)
          | (go_at_call 12; refine (hRm.out _ hJ5.out).mono ?_; rintro e w6 ⟨rfl, h2, h3⟩; have hu5 := hide (own_keep hu5.out fun g hg => h3.block g (own_blk hu5.out hg).2.1); have hJ5 := hide h2; clear h2 h3))
        have hRc := hide (fun W (h : JW K B b z db vb jb S1 rs1 false w1 W) => h.records hI1.out.fits)
        obtain ⟨NP, hNP⟩ : ∃ x : Nat, x = w6.heap.size := ⟨_, rfl⟩
        go_upto_region 18 with (go_at_call 13; refine (hRc.out _ hJ5.out).mono ?_; rintro e w7 ⟨wv, rfl, h3, h4, h5⟩; rw [← hNP] at h3; have hw7 := hide h3; have hu7 := hide (own_keep hu5.out fun g hg => h5.block g (own_blk hu5.out hg).2.1); have hJ7 := hide h4; clear h3 h4 h5)
        clear hJ hu hAp hap hu5 hJ5 hRc
        obtain ⟨kk, hkk⟩ : ∃ kk : Nat, (65537 : Int) + (pk : Int) = (kk : Int) := ⟨65537 + pk, by omega⟩
        have hpk99 : pk ≤ 99 := hpkb.out
        have hkb := hide (show 65537 ≤ kk ∧ kk ≤ 65636 by have := hpkb.out; omega)
        obtain ⟨Z, hZ⟩ : ∃ Z : List UInt8, Z = List.replicate kk 0 := ⟨_, rfl⟩
        obtain ⟨X, hX⟩ : ∃ X : ByteArray, X = RW.zs kk := ⟨_, rfl⟩
        have hXs := hide (show X.size = kk by rw [hX, RW.zs_size])
        have hmL := hide (show L.length = m from hmH.out.symm)
        have hb0 := hide (alloc_bel (Below.refl w7.heap.size w7) (Nat.le_refl _) (.cells #[] 9))
        have ho0 : StrsOwn (w7.alloc (.cells #[] 9)) w7.heap.size (.slice (some ⟨w7.heap.size, 0, none⟩) 0 0) [] := ⟨rfl, .inr ⟨w7.heap.size, 0, #[], rfl, Nat.le_refl _, alloc_at1 _ _, Nat.le_refl _, by unfold maxLen; omega, rfl, rfl⟩⟩
        obtain ⟨v1, W1, hr1, ho1, hb1, _⟩ := run_app_rowS ho0 hb0.out.size ((strs_own hu7.out).next (hb0.out)) (by have := hLl.out; simp; omega)
        rw [List.nil_append] at ho1
        obtain ⟨a1, c1, e1⟩ := own_shape ho1
        rw [hmL.out] at e1
        subst e1
        have hB1 := hide (hb0.out.trans hb1)
        have hmk : (Instr.makeSlice 38 (.int .i64 (65537 + (pk : Int))) (.int .i64 (65537 + (pk : Int)))).run Tryd.prog W1 = .ok (.slice (some ⟨W1.heap.size, 0, none⟩) kk kk) (W1.alloc (.cells (RW.byl Z).toArray 5)) := by rw [hkk, hZ]; exact run_make_by kk (by have := hkb.out; omega) W1
        have hcv : (convert 38 9 (.slice (some ⟨W1.heap.size, 0, none⟩) kk kk)).run Tryd.prog (W1.alloc (.cells (RW.byl Z).toArray 5)) = .ok (.string X) (W1.alloc (.cells (RW.byl Z).toArray 5)) := by rw [hX, hZ]; exact conv_zs W1 kk
        have hb2 := hide (alloc_bel (alloc_bel (Below.refl W1.heap.size W1) (Nat.le_refl _) (.cells (RW.byl Z).toArray 5)) (Nat.le_refl _) (.cells #[.string X] 9))
        have ho2 : StrsOwn ((W1.alloc (.cells (RW.byl Z).toArray 5)).alloc (.cells #[.string X] 9)) w7.heap.size (.slice a1 m c1) L := own_keep ho1 fun g hg => hb2.out.block g (own_blk ho1 hg).2.1
        obtain ⟨v2, W3, hr2, ho3, hb3, _⟩ := run_app_rowS ho2 (Nat.le_trans hB1.out.size hb2.out.size) (strR_new2 W1 (.cells (RW.byl Z).toArray 5) [X] 1 rfl) (by have := hLl.out; simp; omega)
        obtain ⟨a2, c2, e2⟩ := own_shape ho3
        rw [show (L ++ [X]).length = m + 1 by rw [List.length_append, hmL.out]; rfl] at e2
        subst e2
        have hB3 := hide ((hB1.out.trans (hb2.out.mono hB1.out.size)).trans hb3)
        have hJW3 := hide (hJ7.out.next hB3.out)
        have hA18 := hide (show Calls Tryd.prog 11 #[.pointer (some ⟨jb, 0, none⟩), .slice a2 (m + 1) c2] W3 fun e w' => e = .returned (.int .i64 230) ∧ JW K B b z db vb jb S1 rs1 false w1 w' ∧ StrsOwn w' NP wv rs1 from by
          refine (hJW3.out.append hks (by rw [hI1.out.pend]; decide) hI1.out.fits (strs_own ho3) (by have := hLl.out; simp; omega) (hnx.out _ hJW3.out.bel).1).mono ?_
          rintro e w' ⟨rfl, h2, h3, h4⟩
          rw [RW.japp_long (.inr (by simp; right; have := hXs.out; have := hkb.out; omega))] at h2 ⊢
          exact ⟨rfl, h2, own_tchJ (own_keep hw7.out fun g hg => hB3.out.block g (own_blk hw7.out hg).2.1) hJW3.out h4⟩)
        clear hkk hZ hX ho0 ho1 hb1 ho2 ho3 hb3
        go_upto_region 19 with (first
          | (at_builtin; refine wpList_app_run rfl (.tmp 106) (.tmp 107) rfl rfl rfl hr1 ?_)
          | (at_builtin; refine wpList_app_run rfl (.tmp 108) (.tmp 114) rfl rfl rfl hr2 ?_)
          | (go_at_call 14; refine (hPk.out _).mono ?_; rintro e w' ⟨rfl, rfl⟩)
          | (go_at_call 11; refine hA18.out.mono ?_; rintro e w8 ⟨rfl, h2, h3⟩; have hJ8 := hide h2; have hw8 := hide h3; clear h2 h3))
        clear hr1 hr2 hmk hcv hA18 hJW3 hJ7 hu7 hw7 hB1 hB3 hb0 hb2
        have hA19 := hide (show Calls Tryd.prog 11 #[.pointer (some ⟨jb, 0, none⟩), .slice none 0 0] w8 fun e w' => e = .returned (.int .i64 0) ∧ JW K B b z db vb jb S1 rs1 false w1 w' ∧ StrsOwn w' NP wv rs1 from by
          refine (hJ8.out.append hks (by rw [hI1.out.pend]; decide) hI1.out.fits (strR_nil _) (by decide) (hnx.out _ hJ8.out.bel).1).mono ?_
          rintro e w' ⟨rfl, h2, h3, h4⟩
          rw [RW.japp_none] at h2 ⊢
          exact ⟨rfl, h2, own_tchJ hw8.out hJ8.out h4⟩)
        go_upto_region 20 with (go_at_call 11; refine hA19.out.mono ?_; rintro e w9 ⟨rfl, h2, h3⟩; have hJ9 := hide h2; have hw9 := hide h3; clear h2 h3)
        clear hA19 hJ8 hw8
        obtain ⟨S5, hcu, hp5, hsm, hlg⟩ := RW.off_app (RW.sha_len K) hI1.out
        rw [← hUH.out] at hsm hlg
        have hcu := hide hcu
        have hp5 := hide hp5
        have hC20 := hide (show Calls Tryd.prog 15 #[.pointer (some ⟨b, 0, none⟩), .int .i64 0] w9 fun e w' => e = .returned (.int .i64 0) ∧ JW K B b z db vb jb S5 rs1 false w1 w' ∧ StrsOwn w' NP wv rs1 from by
          refine (hJ9.out.cut 0 (by decide)).mono ?_
          rintro e w' ⟨h1, h2, h3, h4⟩
          rw [hcu.out] at h1 h2
          exact ⟨h1, h2, own_tchJ hw9.out hJ9.out (.of_tch h4)⟩)
        go_upto_region 21 with (go_at_call 15; refine hC20.out.mono ?_; rintro e w10 ⟨rfl, h2, h3⟩; have hJ10 := hide h2; have hw10 := hide h3; clear h2 h3)
        clear hC20 hJ9 hw9
        have hb11 := hide (alloc_bel (Below.refl w10.heap.size w10) (Nat.le_refl _) (.cells #[.string ⟨#[120]⟩] 9))
        have hJ11 := hide (hJ10.out.next hb11.out)
        have hw11 := hide (own_keep hw10.out fun g hg => hb11.out.block g (own_blk hw10.out hg).2.1)
        obtain ⟨rr, hrr⟩ : ∃ rr : Int, (z : Int) - (U : Int) = rr := ⟨_, rfl⟩
        have hrc := hide (show rs1.length ≤ 9223372036854775807 by have := RW.stos_ge (RW.sha K) rs1 RW.z32; have := hI1.out.fits; have := hzb.out.2; omega)
        by_cases hsml : z - U < 35
        · have hs1 := hide (hsm hsml)
          have hlt : rr < 35 := by omega
          have hA21 := hide (show Calls Tryd.prog 11 #[.pointer (some ⟨jb, 0, none⟩), .slice (some ⟨w10.heap.size, 0, none⟩) 1 1] (w10.alloc (.cells #[.string ⟨#[120]⟩] 9)) fun e w' => e = .returned (.int .i64 231) ∧ JW K B b z db vb jb S5 rs1 false w1 w' ∧ StrsOwn w' NP wv rs1 from by
            refine (hJ11.out.append hks (by rw [hp5.out]; decide) hI1.out.fits (strR_new w10 [⟨#[120]⟩] 1 rfl) (by decide) (hnx.out _ hJ11.out.bel).1).mono ?_
            rintro e w' ⟨rfl, h2, h3, h4⟩
            rw [hs1.out] at h2 ⊢
            exact ⟨rfl, h2, own_tchJ hw11.out hJ11.out h4⟩)
          have hRm2 := hide (fun W (h : JW K B b z db vb jb S5 rs1 false w1 W) => h.room hI1.out.fits)
          rw [← hUH.out, hrr] at hRm2
          have hA23 := hide (fun W (h : JW K B b z db vb jb S5 rs1 false w1 W) (hw : StrsOwn W NP wv rs1) => (show Calls Tryd.prog 11 #[.pointer (some ⟨jb, 0, none⟩), .slice none 0 0] W fun e w' => e = .returned (.int .i64 0) ∧ JW K B b z db vb jb S5 rs1 false w1 w' ∧ StrsOwn w' NP wv rs1 from by
            refine (h.append hks (by rw [hp5.out]; decide) hI1.out.fits (strR_nil _) (by decide) (hnx.out _ h.bel).1).mono ?_
            rintro e w' ⟨rfl, h2, h3, h4⟩
            rw [RW.japp_none] at h2 ⊢
            exact ⟨rfl, h2, own_tchJ hw h h4⟩))
          have hRc2 := hide (fun W (h : JW K B b z db vb jb S5 rs1 false w1 W) => h.records hI1.out.fits)
          clear hsm hlg hsml hrr
          go_upto_region 22 with (go_at_call 11; refine hA21.out.mono ?_; rintro e w12 ⟨rfl, h2, h3⟩; have hJ12 := hide h2; have hw12 := hide h3; clear h2 h3)
          go_upto_region 23 with (go_at_call 12; refine (hRm2.out _ hJ12.out).mono ?_; rintro e w13 ⟨rfl, h2, h3⟩; have hw13 := hide (own_keep hw12.out fun g hg => h3.block g (own_blk hw12.out hg).2.1); have hJ13 := hide h2; clear h2 h3)
          go_upto_region 25 with (go_at_call 11; refine (hA23.out _ hJ13.out hw13.out).mono ?_; rintro e w14 ⟨rfl, h2, h3⟩; have hJ14 := hide h2; have hw14 := hide h3; clear h2 h3)
          clear hA21 hA23 hRm2 hJ13 hw13 hJ12 hw12 hJ11 hw11 hJ10 hw10
          go_wp2_with (first
            | (go_at_call 13; refine (hRc2.out _ hJ14.out).mono ?_; rintro e w15 ⟨u15, rfl, h3, h4, h5⟩; have hu15 := hide h3; have hw15 := hide (own_keep hw14.out fun g hg => h5.block g (own_blk hw14.out hg).2.1); have hJ15 := hide h4; clear h3 h4 h5 hJ14)
            | (go_at_call 13; refine (records_nil _).mono ?_; rintro e w' ⟨rfl, rfl⟩)
            | (go_at_call 16; refine (same20_any _ _ rs1 rs1 _ (strs_own hu15.out) (strs_own hw15.out) hrc.out hrc.out).mono ?_; rintro e w16 ⟨rfl, h5⟩; have hJ16 := hide (hJ15.out.next h5); clear h5; rw [decide_eq_true (rfl : rs1 = rs1)])
            | (go_at_call 11; refine (Append_nil _ _).mono ?_; rintro e w' ⟨rfl, rfl⟩)
            | (go_at_call 12; refine (room_nil _).mono ?_; rintro e w' ⟨rfl, rfl⟩))
          go_ret
          exact ⟨rfl, hB1H.out.trans (hJ16.out.bel.mono hwB.out)⟩
        · have hs1 := hide (hlg hsml)
          have hlt : ¬ (rr < 35) := by omega
          have hlt2 : decide (rr < 35) = false := decide_eq_false hlt
          have hA21 := hide (show Calls Tryd.prog 11 #[.pointer (some ⟨jb, 0, none⟩), .slice (some ⟨w10.heap.size, 0, none⟩) 1 1] (w10.alloc (.cells #[.string ⟨#[120]⟩] 9)) fun e w' => e = .returned (.int .i64 221) ∧ JW K B b z db vb jb S5 rs1 true w1 w' ∧ StrsOwn w' NP wv rs1 from by
            refine (hJ11.out.append hks (by rw [hp5.out]; decide) hI1.out.fits (strR_new w10 [⟨#[120]⟩] 1 rfl) (by decide) (hnx.out _ hJ11.out.bel).1).mono ?_
            rintro e w' ⟨rfl, h2, h3, h4⟩
            rw [hs1.out] at h2 ⊢
            exact ⟨rfl, h2, own_tchJ hw11.out hJ11.out h4⟩)
          have hRm2 := hide (fun W (h : JW K B b z db vb jb S5 rs1 true w1 W) => h.room hI1.out.fits)
          rw [← hUH.out, hrr] at hRm2
          have hA23 := hide (fun W (h : JW K B b z db vb jb S5 rs1 true w1 W) (hw : StrsOwn W NP wv rs1) => (show Calls Tryd.prog 11 #[.pointer (some ⟨jb, 0, none⟩), .slice none 0 0] W fun e w' => e = .returned (.int .i64 230) ∧ JW K B b z db vb jb S5 rs1 true w1 w' ∧ StrsOwn w' NP wv rs1 from by
            refine (h.append hks (by rw [hp5.out]; decide) hI1.out.fits (strR_nil _) (by decide) (hnx.out _ h.bel).1).mono ?_
            rintro e w' ⟨rfl, h2, h3, h4⟩
            rw [RW.japp_long (.inl rfl)] at h2 ⊢
            exact ⟨rfl, h2, own_tchJ hw h h4⟩))
          have hRc2 := hide (fun W (h : JW K B b z db vb jb S5 rs1 true w1 W) => h.records hI1.out.fits)
          clear hsm hlg hsml hrr
          go_upto_region 22 with (go_at_call 11; refine hA21.out.mono ?_; rintro e w12 ⟨rfl, h2, h3⟩; have hJ12 := hide h2; have hw12 := hide h3; clear h2 h3)
          go_upto_region 23 with (go_at_call 12; refine (hRm2.out _ hJ12.out).mono ?_; rintro e w13 ⟨rfl, h2, h3⟩; have hw13 := hide (own_keep hw12.out fun g hg => h3.block g (own_blk hw12.out hg).2.1); have hJ13 := hide h2; clear h2 h3)
          go_upto_region 25 with (go_at_call 11; refine (hA23.out _ hJ13.out hw13.out).mono ?_; rintro e w14 ⟨rfl, h2, h3⟩; have hJ14 := hide h2; have hw14 := hide h3; clear h2 h3)
          clear hA21 hA23 hRm2 hJ13 hw13 hJ12 hw12 hJ11 hw11 hJ10 hw10
          go_wp2_with (first
            | (go_at_call 13; refine (hRc2.out _ hJ14.out).mono ?_; rintro e w15 ⟨u15, rfl, h3, h4, h5⟩; have hu15 := hide h3; have hw15 := hide (own_keep hw14.out fun g hg => h5.block g (own_blk hw14.out hg).2.1); have hJ15 := hide h4; clear h3 h4 h5 hJ14)
            | (go_at_call 13; refine (records_nil _).mono ?_; rintro e w' ⟨rfl, rfl⟩)
            | (go_at_call 16; refine (same20_any _ _ rs1 rs1 _ (strs_own hu15.out) (strs_own hw15.out) hrc.out hrc.out).mono ?_; rintro e w16 ⟨rfl, h5⟩; have hJ16 := hide (hJ15.out.next h5); clear h5; rw [decide_eq_true (rfl : rs1 = rs1)])
            | (go_at_call 11; refine (Append_nil _ _).mono ?_; rintro e w' ⟨rfl, rfl⟩)
            | (go_at_call 12; refine (room_nil _).mono ?_; rintro e w' ⟨rfl, rfl⟩))
          go_ret
          exact ⟨rfl, hB1H.out.trans (hJ16.out.bel.mono hwB.out)⟩
end Go.Proofs.YtllbphanfahkkaaDoor

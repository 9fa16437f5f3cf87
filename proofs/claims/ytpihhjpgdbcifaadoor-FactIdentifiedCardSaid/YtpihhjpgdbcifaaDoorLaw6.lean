/-
  Package royaltylaw05: FactIdentified: it returns true; only new memory is written.
-/
import Derived.Test.YtpihhjpgdbcifaaDoorLaw5
namespace Go.Proofs.YtpihhjpgdbcifaaDoor
open Go.RowKit
attribute [local go_sem ↓] ldRow_fact stRow_fact
set_option maxRecDepth 100000 in
set_option maxHeartbeats 4000000 in
theorem ident_any (f g : Nat → Int) (s u : ByteArray) (hs : s.size ≤ 9223372036854775807) (hu : u.size ≤ 9223372036854775807) (K : Nat → Int) (ks : Array Value) (hks : RW.WsOk ks K) (a : Addr) (w : World) (hK : KLaid w ks) (hg : w.cell? ⟨0, 0, none⟩ = some (RW.eW a)) :
    Calls Tryd.prog 10 #[.agg (RW.fcells f s), .agg (RW.fcells g u)] w fun e w' => e = .returned (.bool true) ∧ Below w.heap.size w w' := by
  obtain ⟨cs, hcs⟩ : ∃ cs, cs = RW.fcells f s := ⟨_, rfl⟩
  obtain ⟨ds, hds⟩ : ∃ ds, ds = RW.fcells g u := ⟨_, rfl⟩
  have hCf := fun W => cut_any f s hs W
  have hCg := fun W => cut_any g u hu W
  obtain ⟨c, hc⟩ : ∃ c, c = RW.cutT s := ⟨_, rfl⟩
  obtain ⟨d, hd⟩ : ∃ d, d = RW.cutT u := ⟨_, rfl⟩
  simp only [← hc, ← hcs] at hCf
  simp only [← hd, ← hds] at hCg
  rw [← hcs, ← hds]
  have hcsH := hide hcs; have hdsH := hide hds; have hCfH := hide hCf; have hCgH := hide hCg
  have hKH := hide hK; have hgH := hide hg
  clear hcs hds hCf hCg hc hd hK hg
  go_enter Tryd.func10, Tryd.ntmps10
  go_upto_region 1 with fail
  obtain ⟨b1, hb1⟩ : ∃ b, b = w.heap.size := ⟨_, rfl⟩
  obtain ⟨b2, hb2⟩ : ∃ b, b = w.heap.size + 1 := ⟨_, rfl⟩
  have hR := (FRows.new (FRows.nil (Below.refl w.heap.size w)) f s).new g u
  rw [show (w.alloc (.cells (RW.fcells f s) 23)).heap.size = b2 by rw [hb2]; simp, ← hcsH.out, ← hdsH.out, ← hb1] at hR
  rw [← hb1] at ⊢
  rw [show b1 + 1 = b2 by omega]
  have hle1H := hide (show w.heap.size ≤ b1 by omega)
  have hle2H := hide (show w.heap.size ≤ b2 by omega)
  have hbbH := hide (show b1 ≠ b2 by omega)
  refine gen_world (FRows [(b2, g, u), (b1, f, s)] w) hR ?_
  intro W hF
  clear hR hb1 hb2
  go_wp2_with fail
  refine (sane_any K ks hks a _ (RW.klaid hKH.out hF.below) (err_kept hgH.out hF.below)).mono ?_
  rintro e w1 ⟨rfl, hB1⟩
  have hF1 := hF.next hB1
  clear hF hB1
  go_upto_region 2 with fail
  have hFd := hF1.drew
  have l1 := hFd.load b1 f s (by simp)
  have l2 := hFd.load b2 g u (by simp)
  rw [← hcsH.out] at l1
  rw [← hdsH.out] at l2
  go_cut [18] (fun _ wx => FRows [(b1, f, c), (b2, g, d)] w wx)
  case first =>
    go_region_with
      (first
        | ((with_reducible refine (hCfH.out _).mono ?_); rintro e w5 ⟨rfl, hB5⟩; have hF5 := hFd.next hB5; have l3 := hF5.load b2 g u (by simp); rw [← hdsH.out] at l3)
        | ((with_reducible refine (hCgH.out _).mono ?_); rintro e w7 ⟨rfl, hB7⟩; have hF7 := hF5.next hB7; have s7 := hF7.store b1 f f s c (by simp); have hF8 := hF7.put b1 f f s c (by simp) hle1H.out [(b1, f, c), (b2, g, u)] (by have := hbbH.out; simp; omega); have s8 := hF8.store b2 g g u d (by simp); have hF9 := hF8.put b2 g g u d (by simp) hle2H.out [(b1, f, c), (b2, g, d)] (by have := hbbH.out; simp; omega)))
    all_goals (go_wp2_with fail; go_meet)
    all_goals exact hF9
  case rest =>
    have hF2 := hcut
    clear hcut hF1 hFd l1 l2 hCfH hCgH
    have l1 := hF2.load b1 f c (by simp)
    go_wp2_with fail
    refine (id_fact f c K ks hks _ (RW.klaid hKH.out hF2.below)).mono ?_
    rintro e w2 ⟨rfl, hB2⟩
    have hF3 := hF2.next hB2
    clear hB2 l1 hF2
    have l2 := hF3.load b2 g d (by simp)
    cases hv : RW.validB f c.size
    · rw [RW.idR_no _ _ _ hv]
      have hvH := hide hv
      clear hv
      have hX : ∃ t n, RW.idR K g d = .tuple #[.string t, .int .i64 n] ∧ (n = 0 ∨ n = 50) := by
        cases hv2 : RW.validB g d.size
        · exact ⟨_, _, RW.idR_no _ _ _ hv2, .inr rfl⟩
        · exact ⟨_, _, RW.idR_yes _ _ _ hv2, .inl rfl⟩
      obtain ⟨t, n, hX, hn⟩ := hX
      have hXH := hide hX
      clear hX hn
      go_wp2_with fail
      refine (id_fact g d K ks hks _ (RW.klaid hKH.out hF3.below)).mono ?_
      rintro e w3 ⟨rfl, hB3⟩
      have hF4 := hF3.next hB3
      clear hB3 l2 hF3
      rw [hXH.out]
      have l1 := hF4.load b1 f c (by simp)
      go_wp2_with fail
      refine (valid_any f c _).mono ?_
      rintro e w4 ⟨rfl, hB4⟩
      have hF5 := hF4.next hB4
      rw [hvH.out]
      clear hB4 l1 hF4
      go_wp2_with fail
      go_ret
      exact ⟨rfl, hF5.below⟩
    · rw [RW.idR_yes _ _ _ hv]
      have hD : (⟨(RW.sha K (RW.encL f c.data.toList)).toArray⟩ : ByteArray).size = 32 := by
        show (RW.sha K (RW.encL f c.data.toList)).toArray.size = 32
        rw [List.size_toArray]; exact RW.sha_len _ _
      generalize (⟨(RW.sha K (RW.encL f c.data.toList)).toArray⟩ : ByteArray) = D at hD ⊢
      have hvH := hide hv
      clear hv
      cases hv2 : RW.validB g d.size
      · have e2 := hide (RW.idR_no K _ _ hv2)
        clear hv2
        go_wp2_with fail
        refine (id_fact g d K ks hks _ (RW.klaid hKH.out hF3.below)).mono ?_
        rintro e w3 ⟨rfl, hB3⟩
        have hF4 := hF3.next hB3
        clear hB3 l2 hF3
        rw [e2.out]
        have l1 := hF4.load b1 f c (by simp)
        go_wp2_with fail
        refine (valid_any f c _).mono ?_
        rintro e w4 ⟨rfl, hB4⟩
        have hF5 := hF4.next hB4
        rw [hvH.out]
        clear hB4 l1 hF4
        go_wp2_with fail
        go_ret
        exact ⟨rfl, hF5.below⟩
      · have e2 := RW.idR_yes K _ _ hv2
        generalize (⟨(RW.sha K (RW.encL g d.data.toList)).toArray⟩ : ByteArray) = D2 at e2
        have f1 := RW.encR_yes _ _ hvH.out
        have f2 := RW.encR_yes _ _ hv2
        have hinj := RW.enc_inj f g c d hvH.out hv2
        generalize (⟨(RW.encL f c.data.toList).toArray⟩ : ByteArray) = E at f1 hinj
        generalize (⟨(RW.encL g d.data.toList).toArray⟩ : ByteArray) = E2 at f2 hinj
        have hSt := RW.str_eq E E2
        have hS := fun W => eql_feq f g c d W
        rw [hinj] at hSt
        generalize RW.dec (RW.feq f g c d) = q at hSt hS
        obtain ⟨p, hp⟩ : ∃ p, (D.toList == D2.toList) = p := ⟨_, rfl⟩
        have e2H := hide e2; have f1H := hide f1; have f2H := hide f2
        have hStH := hide hSt
        have hSH := hide hS
        have hpH := hide hp
        clear hv2 e2 f1 f2 hinj hSt hS hp
        go_wp2_with fail
        refine (id_fact g d K ks hks _ (RW.klaid hKH.out hF3.below)).mono ?_
        rintro e w3 ⟨rfl, hB3⟩
        have hF4 := hF3.next hB3
        clear hB3 l2 hF3
        rw [e2H.out]
        have l1 := hF4.load b1 f c (by simp)
        go_wp2_with fail
        refine (valid_any f c _).mono ?_
        rintro e w4 ⟨rfl, hB4⟩
        have hF5 := hF4.next hB4
        rw [hvH.out]
        clear hB4 l1 hF4
        have hp := hpH.out
        cases p
        · go_wp2_with fail
          go_ret
          exact ⟨rfl, hF5.below⟩
        · have l1 := hF5.load b1 f c (by simp)
          go_wp2_with fail
          refine (encode_any f c _).mono ?_
          rintro e w5 ⟨rfl, hB5⟩
          have hF6 := hF5.next hB5
          clear hB5 l1 hF5
          rw [f1H.out]
          have l2 := hF6.load b2 g d (by simp)
          go_wp2_with fail
          refine (encode_any g d _).mono ?_
          rintro e w6 ⟨rfl, hB6⟩
          have hF7 := hF6.next hB6
          clear hB6 l2 hF6
          rw [f2H.out]
          have l1 := hF7.load b1 f c (by simp)
          have l2 := hF7.load b2 g d (by simp)
          have hSt := hStH.out
          have hS := hSH.out
          cases q
          · go_wp2_with fail
            go_ret
            exact ⟨rfl, hF7.below⟩
          · go_wp2_with fail
            go_ret
            exact ⟨rfl, hF7.below⟩
end Go.Proofs.YtpihhjpgdbcifaaDoor

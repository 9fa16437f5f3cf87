/-
  Package royaltylaw05: FactVersions: it returns true; only new memory is written.
-/
import Derived.Test.YtpihhjpgdbcifaaDoorLaw7
namespace Go.Proofs.YtpihhjpgdbcifaaDoor
open Go.RowKit
namespace RW
theorem kf_ne (k : Nat) (tt : Int) : ∀ x ∈ kf k tt, x.1 ≠ 2 := by
  intro x hx
  have h : ∀ k, (∀ x ∈ kf k tt, x.1 ≠ 2) := fun k => by
    unfold kf
    split <;> simp
  exact h k x hx
theorem kf_upd (f : Nat → Int) (x : Int) : kf (upd f 2 x 0).toNat (upd f 2 x 12) = kf (f 0).toNat (f 12) := rfl
theorem valid_upd (f : Nat → Int) (n : Nat) (x : Int) (hv : validB f n = true) (hx : 1 ≤ x ∧ x ≤ 1000) : validB (upd f 2 x) n = true := by
  have h := (dec_iff _).1 hv
  refine dec_true ⟨h.1, by simpa [upd] using hx, h.2.2.1, ?_⟩
  have hk := (dec_iff _).1 h.2.2.2
  rw [kf_upd]
  refine dec_true ⟨fun y hy => ?_, hk.2.1, fun i hi h0 h2 hy => ?_⟩
  · have := hk.1 y hy
    unfold upd
    rw [if_neg (kf_ne _ _ y hy)]
    exact this
  · unfold upd
    rw [if_neg h2]
    exact hk.2.2 i hi h0 h2 hy
theorem bad_upd (f : Nat → Int) (n : Nat) (x : Int) (hx : x < 1 ∨ 1000 < x) : validB (upd f 2 x) n = false := by
  refine dec_false (fun h => ?_)
  have := h.2.1
  simp [upd] at this
  omega
theorem key_upd (f : Nat → Int) (x : Int) : keyV (upd f 2 x) = keyV f := by
  have h : ∀ k, keyK (upd f 2 x) k = keyK f k := fun k => by unfold keyK; split <;> simp [upd]
  unfold keyV
  rw [h]
  rfl
theorem prev_upd (f : Nat → Int) (s : ByteArray) (x y : Int) (hv : validB f s.size = true) (hx : 1 ≤ x ∧ x ≤ 1000) (hy : 1 ≤ y ∧ y ≤ 1000) : prevB (upd f 2 x) (upd f 2 y) s s = decide (y < x) := by
  refine (dec_eq ?_).symm
  rw [decide_eq_true_iff]
  constructor
  · intro h
    refine ⟨valid_upd f _ x hv hx, valid_upd f _ y hv hy, ⟨rfl, ?_, ?_⟩, .inl (by simpa [upd] using h)⟩
    · rw [key_upd, key_upd]
    · rw [key_upd, key_upd]
  · intro h
    rcases h.2.2.2 with h | h
    · simpa [upd] using h
    · have h1 : x = y := by simpa [upd] using h.1
      have h2 := h.2
      rw [h1, cmp_self] at h2
      omega
end RW
attribute [local go_sem ↓] ldRow_fact stRow_fact
set_option maxRecDepth 100000 in
set_option maxHeartbeats 8000000 in
theorem versions_any (f : Nat → Int) (s : ByteArray) (n m : Int) (hs : s.size ≤ 9223372036854775807) (hn : -9223372036854775808 ≤ n) (hn2 : n ≤ 9223372036854775807) (hm : -9223372036854775808 ≤ m) (hm2 : m ≤ 9223372036854775807) (K : Nat → Int) (ks : Array Value) (hks : RW.WsOk ks K) (a : Addr) (w : World) (hK : KLaid w ks) (hg : w.cell? ⟨0, 0, none⟩ = some (RW.eW a)) :
    Calls Tryd.prog 11 #[.agg (RW.fcells f s), .int .i64 n, .int .i64 m] w fun e w' => e = .returned (.bool true) ∧ Below w.heap.size w w' := by
  obtain ⟨cs, hcs⟩ : ∃ cs, cs = RW.fcells f s := ⟨_, rfl⟩
  have hCf := fun W => cut_any f s hs W
  obtain ⟨c, hc⟩ : ∃ c, c = RW.cutT s := ⟨_, rfl⟩
  simp only [← hc, ← hcs] at hCf
  rw [← hcs]
  have hcsH := hide hcs; have hCfH := hide hCf
  have hKH := hide hK; have hgH := hide hg
  have hmx := hide (And.intro hn hn2); have hmy := hide (And.intro hm hm2)
  clear hcs hCf hc hK hg hn hn2 hm hm2
  go_enter Tryd.func11, Tryd.ntmps11
  go_upto_region 1 with fail
  obtain ⟨b1, hb1⟩ : ∃ b, b = w.heap.size := ⟨_, rfl⟩
  have hR := FRows.new (FRows.nil (Below.refl w.heap.size w)) f s
  rw [← hcsH.out, ← hb1] at hR
  rw [← hb1] at ⊢
  have hle1 := hide (show w.heap.size ≤ b1 by omega)
  refine gen_world (FRows [(b1, f, s)] w) hR ?_
  intro W hF
  clear hR hb1
  go_wp2_with fail
  refine (sane_any K ks hks a _ (RW.klaid hKH.out hF.below) (err_kept hgH.out hF.below)).mono ?_
  rintro e w1 ⟨rfl, hB1⟩
  have hF1 := hF.next hB1
  clear hF hB1
  have l1 := hF1.load b1 f s (by simp)
  rw [← hcsH.out] at l1
  go_wp2_with fail
  refine (hCfH.out _).mono ?_
  rintro e w2 ⟨rfl, hB2⟩
  have hF2 := hF1.next hB2
  have s2 := hF2.store b1 f f s c (by simp)
  clear hF1 hB2 l1
  go_upto_region 3 with fail
  refine gen_world (FRows [(b1, f, c)] w) (hF2.put b1 f f s c (by simp) hle1.out [(b1, f, c)] (by simp)) ?_
  clear hF2 s2 hCfH
  intro w3 hF3
  have l1 := hF3.load b1 f c (by simp)
  have hi := fact_info f c
  go_wp2_with fail
  refine (valid_any f c _).mono ?_
  rintro e w4 ⟨rfl, hB4⟩
  have hF4 := hF3.next hB4
  clear hF3 hB4 l1
  cases hv : RW.validB f c.size
  · go_wp2_with fail
    go_ret
    exact ⟨rfl, hF4.below⟩
  · have hvH := hide hv
    clear hv
    have l1 := hF4.load b1 f c (by simp)
    have hlt1 := hide (hF4.lt (b1, f, c) (by simp))
    go_upto_region 6 with (refine wpList_store_new rfl 23 (.tmp 8) (.tmp 19) rfl (RW.fcells f c) rfl rfl 23 _ hi rfl (fcells_one _ _) ?_)
    obtain ⟨b2, hb2⟩ : ∃ b, b = w4.heap.size := ⟨_, rfl⟩
    have hF5 := hF4.new f c
    rw [← hb2] at hF5 ⊢
    have hle2 := hide (show w.heap.size ≤ b2 from hb2 ▸ hF4.below.size)
    have hn12 := hide (show b1 ≠ b2 by have h1 : b1 < w4.heap.size := hlt1.out; omega)
    refine gen_world (FRows [(b2, f, c), (b1, f, c)] w) hF5 ?_
    clear hF4 hF5 l1 hlt1 hb2
    intro w5 hF5
    have l1 := hF5.load b1 f c (by simp)
    have hlt1 := hide (hF5.lt (b1, f, c) (by simp))
    have hlt2 := hide (hF5.lt (b2, f, c) (by simp))
    go_upto_region 7 with (refine wpList_store_new rfl 23 (.tmp 9) (.tmp 20) rfl (RW.fcells f c) rfl rfl 23 _ hi rfl (fcells_one _ _) ?_)
    obtain ⟨b3, hb3⟩ : ∃ b, b = w5.heap.size := ⟨_, rfl⟩
    have hF6 := hF5.new f c
    rw [← hb3] at hF6 ⊢
    have hle3 := hide (show w.heap.size ≤ b3 from hb3 ▸ hF5.below.size)
    have hn3 := hide (show b1 ≠ b3 ∧ b2 ≠ b3 by have h1 : b1 < w5.heap.size := hlt1.out; have h2 : b2 < w5.heap.size := hlt2.out; omega)
    refine gen_world (FRows [(b2, f, c), (b3, f, c), (b1, f, c)] w) (hF6.sub (by simp; try omega)) ?_
    clear hF5 hF6 l1 hlt1 hlt2 hb3
    intro w6 hF6
    have hpv := RW.pickI_bd n 1000 (by decide)
    have hpw := RW.pickI_bd m 1000 (by decide)
    obtain ⟨pv, hpvd⟩ : ∃ p, p = RW.pickI n 1000 := ⟨_, rfl⟩
    obtain ⟨pw, hpwd⟩ : ∃ p, p = RW.pickI m 1000 := ⟨_, rfl⟩
    rw [← hpvd] at hpv
    rw [← hpwd] at hpw
    have hpvH := hide hpvd; have hpwH := hide hpwd
    have hv1 : 1 ≤ 1 + pv ∧ 1 + pv ≤ 1000 := by omega
    have hw1 : 1 ≤ 1 + pw ∧ 1 + pw ≤ 1000 := by omega
    have wv : IntKind.i64.wrap (1 + pv) = 1 + pv := by simp [IntKind.wrap, IntKind.signed, IntKind.bits]; omega
    have ww : IntKind.i64.wrap (1 + pw) = 1 + pw := by simp [IntKind.wrap, IntKind.signed, IntKind.bits]; omega
    have hvb := hide hv1; have hwb := hide hw1
    clear hpvd hpwd hpv hpw hv1 hw1
    have c2 := hF6.cell b2 f c (by simp) 2 (by decide)
    have u2 := hF6.unfrozen b2 f c (by simp) 2
    go_wp2_with fail
    refine (pick_any n 1000 hmx.out.1 hmx.out.2 (by decide) (by decide) _).mono ?_
    rintro e w7 ⟨rfl, rfl⟩
    rw [← hpvH.out]
    go_upto_region 8 with fail
    have hF7 := hF6.set hle2.out (by have h1 := hn12.out; have h2 := hn3.out; simp; omega) 2 (by decide) (1 + pv)
    obtain ⟨fa, hfa⟩ : ∃ fa, fa = RW.upd f 2 (1 + pv) := ⟨_, rfl⟩
    rw [← hfa] at hF7
    have hfaH := hide hfa
    refine gen_world (FRows [(b3, f, c), (b2, fa, c), (b1, f, c)] w) (hF7.sub (by simp; try omega)) ?_
    clear hF6 hF7 c2 u2 hfa
    intro w8 hF8
    have c2 := hF8.cell b3 f c (by simp) 2 (by decide)
    have u2 := hF8.unfrozen b3 f c (by simp) 2
    go_wp2_with fail
    refine (pick_any m 1000 hmy.out.1 hmy.out.2 (by decide) (by decide) _).mono ?_
    rintro e w9 ⟨rfl, rfl⟩
    rw [← hpwH.out]
    go_upto_region 9 with fail
    have hF9 := hF8.set hle3.out (by have h1 := hn12.out; have h2 := hn3.out; simp; omega) 2 (by decide) (1 + pw)
    obtain ⟨fb, hfb⟩ : ∃ fa, fa = RW.upd f 2 (1 + pw) := ⟨_, rfl⟩
    rw [← hfb] at hF9
    have hfbH := hide hfb
    refine gen_world (FRows [(b3, fb, c), (b2, fa, c), (b1, f, c)] w) hF9 ?_
    clear hF8 hF9 c2 u2 hfb
    intro w9 hF9
    have l1 := hF9.load b1 f c (by simp)
    have hlt1 := hide (show b1 < w9.heap.size from hF9.lt (b1, f, c) (by simp))
    have hlt2 := hide (show b2 < w9.heap.size from hF9.lt (b2, fa, c) (by simp))
    have hlt3 := hide (show b3 < w9.heap.size from hF9.lt (b3, fb, c) (by simp))
    go_upto_region 10 with (refine wpList_store_new rfl 23 (.tmp 10) (.tmp 29) rfl (RW.fcells f c) rfl rfl 23 _ hi rfl (fcells_one _ _) ?_)
    obtain ⟨b4, hb4⟩ : ∃ b, b = w9.heap.size := ⟨_, rfl⟩
    have hFa := hF9.new f c
    rw [← hb4] at hFa ⊢
    have hle4 := hide (show w.heap.size ≤ b4 from hb4 ▸ hF9.below.size)
    have hn4 := hide (show b1 ≠ b4 ∧ b2 ≠ b4 ∧ b3 ≠ b4 by have h1 := hlt1.out; have h2 := hlt2.out; have h3 := hlt3.out; omega)
    refine gen_world (FRows [(b4, f, c), (b3, fb, c), (b2, fa, c), (b1, f, c)] w) hFa ?_
    clear hF9 hFa l1 hlt1 hlt2 hlt3 hb4
    intro wa hFa
    have c2 := hFa.cell b4 f c (by simp) 2 (by decide)
    have u2 := hFa.unfrozen b4 f c (by simp) 2
    go_upto_region 11 with fail
    have hFb := hFa.set hle4.out (by have h1 := hn12.out; have h2 := hn3.out; have h3 := hn4.out; simp; omega) 2 (by decide) 0
    obtain ⟨fn, hfn⟩ : ∃ fa, fa = RW.upd f 2 0 := ⟨_, rfl⟩
    rw [← hfn] at hFb
    have hfnH := hide hfn
    refine gen_world (FRows [(b4, fn, c), (b3, fb, c), (b2, fa, c), (b1, f, c)] w) hFb ?_
    clear hFa hFb c2 u2 hfn
    intro wb hFb
    have l1 := hFb.load b1 f c (by simp)
    have hlt1 := hide (show b1 < wb.heap.size from hFb.lt (b1, f, c) (by simp))
    have hlt2 := hide (show b2 < wb.heap.size from hFb.lt (b2, fa, c) (by simp))
    have hlt3 := hide (show b3 < wb.heap.size from hFb.lt (b3, fb, c) (by simp))
    have hlt4 := hide (show b4 < wb.heap.size from hFb.lt (b4, fn, c) (by simp))
    go_upto_region 12 with (refine wpList_store_new rfl 23 (.tmp 11) (.tmp 31) rfl (RW.fcells f c) rfl rfl 23 _ hi rfl (fcells_one _ _) ?_)
    obtain ⟨b5, hb5⟩ : ∃ b, b = wb.heap.size := ⟨_, rfl⟩
    have hFc := hFb.new f c
    rw [← hb5] at hFc ⊢
    have hle5 := hide (show w.heap.size ≤ b5 from hb5 ▸ hFb.below.size)
    have hn5 := hide (show b1 ≠ b5 ∧ b2 ≠ b5 ∧ b3 ≠ b5 ∧ b4 ≠ b5 by have h1 := hlt1.out; have h2 := hlt2.out; have h3 := hlt3.out; have h4 := hlt4.out; omega)
    refine gen_world (FRows [(b5, f, c), (b4, fn, c), (b3, fb, c), (b2, fa, c), (b1, f, c)] w) hFc ?_
    clear hFb hFc l1 hlt1 hlt2 hlt3 hlt4 hb5
    intro wc hFc
    have c2 := hFc.cell b5 f c (by simp) 2 (by decide)
    have u2 := hFc.unfrozen b5 f c (by simp) 2
    go_upto_region 13 with fail
    have hFd0 := hFc.set hle5.out (by have h1 := hn12.out; have h2 := hn3.out; have h3 := hn4.out; have h4 := hn5.out; simp; omega) 2 (by decide) 1001
    obtain ⟨fl, hfl⟩ : ∃ fa, fa = RW.upd f 2 1001 := ⟨_, rfl⟩
    rw [← hfl] at hFd0
    have hflH := hide hfl
    refine gen_world (FRows [(b5, fl, c), (b4, fn, c), (b3, fb, c), (b2, fa, c), (b1, f, c)] w) hFd0 ?_
    clear hFc hFd0 c2 u2 hfl
    intro wd hFd
    have kVa : ∀ W, Calls Tryd.prog 14 #[.agg (RW.fcells fa c)] W fun e w' => e = .returned (.bool true) ∧ Below W.heap.size W w' := fun W => by
      have h := valid_any fa c W
      rwa [hfaH.out, RW.valid_upd f _ _ hvH.out hvb.out, ← hfaH.out] at h
    have kVn : ∀ W, Calls Tryd.prog 14 #[.agg (RW.fcells fn c)] W fun e w' => e = .returned (.bool false) ∧ Below W.heap.size W w' := fun W => by
      have h := valid_any fn c W
      rwa [hfnH.out, RW.bad_upd f _ _ (by decide), ← hfnH.out] at h
    have kVl : ∀ W, Calls Tryd.prog 14 #[.agg (RW.fcells fl c)] W fun e w' => e = .returned (.bool false) ∧ Below W.heap.size W w' := fun W => by
      have h := valid_any fl c W
      rwa [hflH.out, RW.bad_upd f _ _ (by decide), ← hflH.out] at h
    have kKa : ∀ W, Calls Tryd.prog 17 #[.agg (RW.fcells fa c)] W fun e w' => e = .returned (.agg #[.int .i64 (f 0), .int .i64 (RW.keyV f).1, .int .i64 (RW.keyV f).2]) ∧ Below W.heap.size W w' := fun W => by
      have h := key_any fa c W
      have e : RW.keyV fa = RW.keyV f := by rw [hfaH.out, RW.key_upd]
      have e0 : fa 0 = f 0 := by rw [hfaH.out]; rfl
      rwa [e, e0] at h
    have kKf := fun W => key_any f c W
    have kP : ∀ W, Calls Tryd.prog 19 #[.agg (RW.fcells fa c), .agg (RW.fcells fb c)] W fun e w' => e = .returned (.bool (decide (1 + pw < 1 + pv))) ∧ Below W.heap.size W w' := fun W => by
      have h := prev_any fa fb c c W
      rwa [hfaH.out, hfbH.out, RW.prev_upd f c _ _ hvH.out hvb.out hwb.out, ← hfaH.out, ← hfbH.out] at h
    have ea : fa 2 = 1 + pv := by rw [hfaH.out]; rfl
    have eb : fb 2 = 1 + pw := by rw [hfbH.out]; rfl
    have hS : ∀ W, FRows [(b5, fl, c), (b4, fn, c), (b3, fb, c), (b2, fa, c), (b1, f, c)] w W → (ldRow 23 (.pointer (some ⟨b1, 0, none⟩))).run Tryd.prog W = .ok (.agg (RW.fcells f c)) W ∧ (ldRow 23 (.pointer (some ⟨b2, 0, none⟩))).run Tryd.prog W = .ok (.agg (RW.fcells fa c)) W ∧ (ldRow 23 (.pointer (some ⟨b3, 0, none⟩))).run Tryd.prog W = .ok (.agg (RW.fcells fb c)) W ∧ (ldRow 23 (.pointer (some ⟨b4, 0, none⟩))).run Tryd.prog W = .ok (.agg (RW.fcells fn c)) W ∧ (ldRow 23 (.pointer (some ⟨b5, 0, none⟩))).run Tryd.prog W = .ok (.agg (RW.fcells fl c)) W ∧ W.cell? ⟨b2, 2, none⟩ = some (.int .i64 (1 + pv)) ∧ W.cell? ⟨b3, 2, none⟩ = some (.int .i64 (1 + pw)) := fun W h =>
      ⟨h.load b1 f c (by simp), h.load b2 fa c (by simp), h.load b3 fb c (by simp), h.load b4 fn c (by simp), h.load b5 fl c (by simp), ea ▸ h.cell b2 fa c (by simp) 2 (by decide), eb ▸ h.cell b3 fb c (by simp) 2 (by decide)⟩
    have hSH := hide hS
    have kVaH := hide kVa; have kVnH := hide kVn; have kVlH := hide kVl; have kKaH := hide kKa; have kKfH := hide kKf; have kPH := hide kP
    have hNK := fun W => eql_key (f 0) (RW.keyV f).1 (RW.keyV f).2 (f 0) (RW.keyV f).1 (RW.keyV f).2 W
    rw [RW.dec_true ⟨rfl, rfl, rfl⟩] at hNK
    have hG := hFd.drew
    clear hS kVa kVn kVl kKa kKf kP ea eb wv ww
    go_cut [6] (fun s6 wx => s6 = .bool true ∧ Below w.heap.size w wx)
    case first =>
      go_region_held3 (fun W => (ldRow 23 (.pointer (some ⟨b1, 0, none⟩))).run Tryd.prog W = .ok (.agg (RW.fcells f c)) W ∧ (ldRow 23 (.pointer (some ⟨b2, 0, none⟩))).run Tryd.prog W = .ok (.agg (RW.fcells fa c)) W ∧ (ldRow 23 (.pointer (some ⟨b3, 0, none⟩))).run Tryd.prog W = .ok (.agg (RW.fcells fb c)) W ∧ (ldRow 23 (.pointer (some ⟨b4, 0, none⟩))).run Tryd.prog W = .ok (.agg (RW.fcells fn c)) W ∧ (ldRow 23 (.pointer (some ⟨b5, 0, none⟩))).run Tryd.prog W = .ok (.agg (RW.fcells fl c)) W ∧ W.cell? ⟨b2, 2, none⟩ = some (.int .i64 (1 + pv)) ∧ W.cell? ⟨b3, 2, none⟩ = some (.int .i64 (1 + pw)))
        (first | exact hSH.out _ hG6 | exact hSH.out _ hG5 | exact hSH.out _ hG4 | exact hSH.out _ hG3 | exact hSH.out _ hG2 | exact hSH.out _ hG1 | exact hSH.out _ hG)
        (first
          | ((with_reducible refine (kVaH.out _).mono ?_); rintro e v1 ⟨rfl, hB⟩; have hG1 := hG.next hB)
          | ((with_reducible refine (kKaH.out _).mono ?_); rintro e v2 ⟨rfl, hB⟩; have hG2 := hG1.next hB)
          | ((with_reducible refine (kKfH.out _).mono ?_); rintro e v3 ⟨rfl, hB⟩; have hG3 := hG2.next hB)
          | ((with_reducible refine (kPH.out _).mono ?_); rintro e v4 ⟨rfl, hB⟩; have hG4 := hG3.next hB)
          | ((with_reducible refine (kVnH.out _).mono ?_); rintro e v5 ⟨rfl, hB⟩; have hG5 := hG4.next hB)
          | ((with_reducible refine (kVlH.out _).mono ?_); rintro e v6 ⟨rfl, hB⟩; have hG6 := hG5.next hB))
      all_goals (go_wp2_with fail; go_meet)
      all_goals exact ⟨rfl, hG6.below⟩
    case rest =>
      obtain ⟨rfl, hE⟩ := hcut
      go_wp2_with fail
      go_ret
      exact ⟨rfl, hE⟩
end Go.Proofs.YtpihhjpgdbcifaaDoor

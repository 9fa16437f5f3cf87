/-
  Package royaltylaw05: FactOrder: it returns true; only new memory is written.
-/
import Derived.Test.YtpihhjpgdbcifaaDoorLaw7
namespace Go.Proofs.YtpihhjpgdbcifaaDoor
open Go.RowKit
theorem neq_feq (f g : Nat → Int) (s u : ByteArray) (W : World) : (binOp .neq 23 (.agg (RW.fcells f s)) (.agg (RW.fcells g u))).run Tryd.prog W = .ok (.bool (!RW.dec (RW.feq f g s u))) W := by
  have h := eql_feq f g s u W
  rw [run_eql_struct] at h
  rw [run_neq_struct]
  cases hq : (Op.equalIn 10000 23 (.agg (RW.fcells f s)) (.agg (RW.fcells g u))).run Tryd.prog W with
  | ok b w' => rw [hq] at h; simp at h; obtain ⟨h1, h2⟩ := h; subst h1 h2; simp
  | _ => rw [hq] at h; simp at h
attribute [local go_sem ↓] ldRow_fact stRow_fact
set_option maxRecDepth 100000 in
set_option maxHeartbeats 8000000 in
theorem order_any (f g k : Nat → Int) (s u v : ByteArray) (hs : s.size ≤ 9223372036854775807) (hu : u.size ≤ 9223372036854775807) (hv : v.size ≤ 9223372036854775807) (K : Nat → Int) (ks : Array Value) (hks : RW.WsOk ks K) (a : Addr) (w : World) (hK : KLaid w ks) (hg : w.cell? ⟨0, 0, none⟩ = some (RW.eW a)) :
    Calls Tryd.prog 9 #[.agg (RW.fcells f s), .agg (RW.fcells g u), .agg (RW.fcells k v)] w fun e w' => e = .returned (.bool true) ∧ Below w.heap.size w w' := by
  obtain ⟨cs, hcs⟩ : ∃ cs, cs = RW.fcells f s := ⟨_, rfl⟩
  obtain ⟨ds, hds⟩ : ∃ ds, ds = RW.fcells g u := ⟨_, rfl⟩
  obtain ⟨es, hes⟩ : ∃ es, es = RW.fcells k v := ⟨_, rfl⟩
  have hCf := fun W => cut_any f s hs W
  have hCg := fun W => cut_any g u hu W
  have hCk := fun W => cut_any k v hv W
  obtain ⟨c, hc⟩ : ∃ c, c = RW.cutT s := ⟨_, rfl⟩
  obtain ⟨d, hd⟩ : ∃ d, d = RW.cutT u := ⟨_, rfl⟩
  obtain ⟨x, hx⟩ : ∃ d, d = RW.cutT v := ⟨_, rfl⟩
  simp only [← hc, ← hcs] at hCf
  simp only [← hd, ← hds] at hCg
  simp only [← hx, ← hes] at hCk
  rw [← hcs, ← hds, ← hes]
  have hcsH := hide hcs; have hdsH := hide hds; have hesH := hide hes; have hCfH := hide hCf; have hCgH := hide hCg; have hCkH := hide hCk
  have hKH := hide hK; have hgH := hide hg
  clear hcs hds hes hCf hCg hCk hc hd hx hK hg
  go_enter Tryd.func9, Tryd.ntmps9
  go_upto_region 1 with fail
  obtain ⟨b1, hb1⟩ : ∃ b, b = w.heap.size := ⟨_, rfl⟩
  obtain ⟨b2, hb2⟩ : ∃ b, b = w.heap.size + 1 := ⟨_, rfl⟩
  obtain ⟨b3, hb3⟩ : ∃ b, b = w.heap.size + 1 + 1 := ⟨_, rfl⟩
  have hR := ((FRows.new (FRows.nil (Below.refl w.heap.size w)) f s).new g u).new k v
  rw [show ((w.alloc (.cells (RW.fcells f s) 23)).alloc (.cells (RW.fcells g u) 23)).heap.size = b3 by rw [hb3]; simp, show (w.alloc (.cells (RW.fcells f s) 23)).heap.size = b2 by rw [hb2]; simp, ← hcsH.out, ← hdsH.out, ← hesH.out, ← hb1] at hR
  rw [← hb1] at ⊢
  rw [show b1 + 1 = b2 by omega]
  rw [show b2 + 1 = b3 by omega]
  have hle1H := hide (show w.heap.size ≤ b1 by omega)
  have hle2H := hide (show w.heap.size ≤ b2 by omega)
  have hle3H := hide (show w.heap.size ≤ b3 by omega)
  have hbbH := hide (show b1 ≠ b2 ∧ b1 ≠ b3 ∧ b2 ≠ b3 by omega)
  refine gen_world (FRows [(b3, k, v), (b2, g, u), (b1, f, s)] w) hR ?_
  intro W hF
  clear hR hb1 hb2 hb3
  go_wp2_with fail
  refine (sane_any K ks hks a _ (RW.klaid hKH.out hF.below) (err_kept hgH.out hF.below)).mono ?_
  rintro e w1 ⟨rfl, hB1⟩
  have hF1 := hF.next hB1
  clear hF hB1
  go_upto_region 2 with fail
  have hFd := hF1.drew
  have l1 := hFd.load b1 f s (by simp)
  have l2 := hFd.load b2 g u (by simp)
  have l3 := hFd.load b3 k v (by simp)
  rw [← hcsH.out] at l1
  rw [← hdsH.out] at l2
  rw [← hesH.out] at l3
  go_cut [17] (fun _ wx => FRows [(b1, f, c), (b2, g, d), (b3, k, x)] w wx)
  case first =>
    go_region_with
      (first
        | ((with_reducible refine (hCfH.out _).mono ?_); rintro e w5 ⟨rfl, hB5⟩; have hF5 := hFd.next hB5; have m2 := hF5.load b2 g u (by simp); have m3 := hF5.load b3 k v (by simp); rw [← hdsH.out] at m2; rw [← hesH.out] at m3)
        | ((with_reducible refine (hCgH.out _).mono ?_); rintro e w7 ⟨rfl, hB7⟩; have hF7 := hF5.next hB7; have n3 := hF7.load b3 k v (by simp); rw [← hesH.out] at n3)
        | ((with_reducible refine (hCkH.out _).mono ?_); rintro e w9 ⟨rfl, hB9⟩; have hF9 := hF7.next hB9; have s9 := hF9.store b1 f f s c (by simp); have hFA := hF9.put b1 f f s c (by simp) hle1H.out [(b1, f, c), (b2, g, u), (b3, k, v)] (by have := hbbH.out; simp; omega); have sA := hFA.store b2 g g u d (by simp); have hFB := hFA.put b2 g g u d (by simp) hle2H.out [(b1, f, c), (b2, g, d), (b3, k, v)] (by have := hbbH.out; simp; omega); have sB := hFB.store b3 k k v x (by simp); have hFC := hFB.put b3 k k v x (by simp) hle3H.out [(b1, f, c), (b2, g, d), (b3, k, x)] (by have := hbbH.out; simp; omega)))
    all_goals (go_wp2_with fail; go_meet)
    all_goals exact hFC
  case rest =>
    have hF2 := hcut
    clear hcut hF1 hFd l1 l2 l3 hCfH hCgH hCkH
    have l1 := hF2.load b1 f c (by simp)
    have l2 := hF2.load b2 g d (by simp)
    go_wp2_with fail
    refine (prev_any f g c d _).mono ?_
    rintro e w2 ⟨rfl, hB2⟩
    have hF3 := hF2.next hB2
    clear hB2 l1 l2 hF2
    have l1 := hF3.load b1 f c (by simp)
    have l2 := hF3.load b2 g d (by simp)
    obtain ⟨ab, hab⟩ : ∃ ab, ab = RW.prevB f g c d := ⟨_, rfl⟩
    rw [← hab]
    have habH := hide hab
    clear hab
    go_wp2_with fail
    refine (prev_any g f d c _).mono ?_
    rintro e w3 ⟨rfl, hB3⟩
    have hF4 := hF3.next hB3
    clear hB3 l1 l2 hF3
    obtain ⟨ba, hba⟩ : ∃ ba, ba = RW.prevB g f d c := ⟨_, rfl⟩
    rw [← hba]
    have hbaH := hide hba
    clear hba
    go_upto_region 5 with fail
    obtain ⟨cm, hcm⟩ : ∃ cm, cm = RW.compB f g c d := ⟨_, rfl⟩
    have hcmH := hide hcm
    clear hcm
    go_cut [10] (fun s10 wx => s10 = .bool cm ∧ FRows [(b1, f, c), (b2, g, d), (b3, k, x)] w wx)
    case first =>
      have hVf0 := fun W => valid_any f c W
      have hVg0 := fun W => valid_any g d W
      have hKf := hide (fun W => key_any f c W)
      have hKg := hide (fun W => key_any g d W)
      have hNK := eql_key (f 0) (RW.keyV f).1 (RW.keyV f).2 (g 0) (RW.keyV g).1 (RW.keyV g).2
      have hcm := hcmH.out
      unfold RW.compB at hcm
      obtain ⟨kq, hkq⟩ : ∃ kq, kq = RW.dec (f 0 = g 0 ∧ (RW.keyV f).1 = (RW.keyV g).1 ∧ (RW.keyV f).2 = (RW.keyV g).2) := ⟨_, rfl⟩
      rw [← hkq] at hNK hcm
      obtain ⟨p1, hp1⟩ : ∃ p, p = RW.validB f c.size := ⟨_, rfl⟩
      obtain ⟨p2, hp2⟩ : ∃ p, p = RW.validB g d.size := ⟨_, rfl⟩
      rw [← hp1, ← hp2] at hcm
      simp only [← hp1] at hVf0
      simp only [← hp2] at hVg0
      have hVf := hide hVf0
      have hVg := hide hVg0
      clear hVf0 hVg0
      have hG := hF4
      clear hkq hp1 hp2 hcmH
      have hFd := hF4.drew
      have l1 := hFd.load b1 f c (by simp)
      have l2 := hFd.load b2 g d (by simp)
      cases p1
      · obtain rfl : cm = false := by rw [hcm]; rfl
        clear hcm
        go_region_with
          (first
            | ((with_reducible refine (hVf.out _).mono ?_); rintro e w5 ⟨rfl, hB5⟩; have hF5 := hFd.next hB5; have m1 := hF5.load b1 f c (by simp); have m2 := hF5.load b2 g d (by simp)))
        all_goals (go_wp2_with fail; go_meet)
        all_goals exact ⟨rfl, hF5⟩
      · cases p2
        · obtain rfl : cm = false := by rw [hcm]; rfl
          clear hcm
          go_region_with
            (first
              | ((with_reducible refine (hVf.out _).mono ?_); rintro e w5 ⟨rfl, hB5⟩; have hF5 := hFd.next hB5; have m1 := hF5.load b1 f c (by simp); have m2 := hF5.load b2 g d (by simp))
              | ((with_reducible refine (hVg.out _).mono ?_); rintro e w6 ⟨rfl, hB6⟩; have hF6 := hF5.next hB6; have n1 := hF6.load b1 f c (by simp); have n2 := hF6.load b2 g d (by simp)))
          all_goals (go_wp2_with fail; go_meet)
          all_goals exact ⟨rfl, hF6⟩
        · obtain rfl : cm = kq := by rw [hcm]; rfl
          clear hcm
          go_region_with
            (first
              | ((with_reducible refine (hVf.out _).mono ?_); rintro e w5 ⟨rfl, hB5⟩; have hF5 := hFd.next hB5; have m1 := hF5.load b1 f c (by simp); have m2 := hF5.load b2 g d (by simp))
              | ((with_reducible refine (hVg.out _).mono ?_); rintro e w6 ⟨rfl, hB6⟩; have hF6 := hF5.next hB6; have n1 := hF6.load b1 f c (by simp); have n2 := hF6.load b2 g d (by simp))
              | ((with_reducible refine (hKf.out _).mono ?_); rintro e w7 ⟨rfl, hB7⟩; have hF7 := hF6.next hB7; have o1 := hF7.load b1 f c (by simp); have o2 := hF7.load b2 g d (by simp))
              | ((with_reducible refine (hKg.out _).mono ?_); rintro e w8 ⟨rfl, hB8⟩; have hF8 := hF7.next hB8))
          all_goals (go_wp2_with fail; go_meet)
          all_goals exact ⟨rfl, hF8⟩
    case rest =>
      obtain ⟨rfl, hF5⟩ := hcut
      clear hF4
      have t1 := RW.prev_asymm f g c d
      have t2 := RW.prev_total f g c d
      have t3 := RW.prev_version f g c d
      have t4 := RW.prev_irrefl f c
      have hNE := neq_feq f g c d
      rw [← habH.out] at t1 t2 t3
      rw [← hbaH.out] at t1 t2
      rw [← hcmH.out] at t2
      have hTr : ab = true → RW.prevB g k d x = true → RW.prevB f k c x = true := fun h h2 => RW.prev_trans f g k c d x (by rw [← habH.out]; exact h) h2
      generalize RW.dec (RW.feq f g c d) = q at t2 hNE
      have hTrH := hide hTr
      have t4H := hide t4
      have t3H := hide t3
      clear hTr t4 t3
      have hEnd : ∀ W : World, FRows [(b1, f, c), (b2, g, d), (b3, k, x)] w W → Below w.heap.size w W := fun W h => h.below
      have l1 := hF5.load b1 f c (by simp)
      have l2 := hF5.load b2 g d (by simp)
      cases ab
      · have hx4 : cm = false ∧ ba = false ∨ cm = true ∧ ba = false ∧ q = true ∨ cm = true ∧ ba = true ∧ q = false := by
          cases ba <;> cases cm <;> cases q <;> simp at t2 ⊢
        clear t1 t2
        rcases hx4 with ⟨rfl, rfl⟩ | ⟨rfl, rfl, rfl⟩ | ⟨rfl, rfl, rfl⟩
        all_goals
          (go_wp2_with fail
           refine (prev_any f f c c _).mono ?_
           rintro e w6 ⟨rfl, hB6⟩
           have hF6 := hF5.next hB6
           clear hB6 hF5 l1 l2
           rw [t4H.out]
           go_wp2_with fail
           go_ret
           exact ⟨rfl, hF6.below⟩)
      · have hx4 : cm = true ∧ ba = false ∧ q = false := by
          cases ba <;> cases cm <;> cases q <;> simp at t1 t2 ⊢
        clear t1 t2
        obtain ⟨rfl, rfl, rfl⟩ := hx4
        have t3 := t3H.out rfl
        have t5 : (decide (f 2 < g 2)) = false := by simp [t3]
        have c1 := hF5.cell b1 f c (by simp) 2 (by decide)
        have c2 := hF5.cell b2 g d (by simp) 2 (by decide)
        go_wp2_with fail
        refine (prev_any f f c c _).mono ?_
        rintro e w6 ⟨rfl, hB6⟩
        have hF6 := hF5.next hB6
        clear hB6 hF5 l1 l2 c1 c2
        rw [t4H.out]
        have l2 := hF6.load b2 g d (by simp)
        have l3 := hF6.load b3 k x (by simp)
        go_wp2_with fail
        refine (prev_any g k d x _).mono ?_
        rintro e w7 ⟨rfl, hB7⟩
        have hF7 := hF6.next hB7
        clear hB7 hF6 l2 l3
        cases hbc : RW.prevB g k d x
        · go_wp2_with fail
          go_ret
          exact ⟨rfl, hF7.below⟩
        · have hac := hTrH.out (by simp) hbc
          have hacH := hide hac
          clear hac hbc
          have l1 := hF7.load b1 f c (by simp)
          have l3 := hF7.load b3 k x (by simp)
          go_wp2_with fail
          refine (prev_any f k c x _).mono ?_
          rintro e w8 ⟨rfl, hB8⟩
          have hF8 := hF7.next hB8
          clear hB8 hF7 l1 l3
          rw [hacH.out]
          go_wp2_with fail
          go_ret
          exact ⟨rfl, hF8.below⟩
end Go.Proofs.YtpihhjpgdbcifaaDoor

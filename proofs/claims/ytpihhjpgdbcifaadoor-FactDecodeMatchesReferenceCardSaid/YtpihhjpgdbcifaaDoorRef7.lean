/-
  Package royaltyref05: rest and fields at the other kinds; Valid, Encode: what they return; only new memory is written.
-/
import Derived.Test.YtpihhjpgdbcifaaDoorRef5
import Derived.Test.YtpihhjpgdbcifaaDoorRef6
namespace Go.Proofs.YtpihhjpgdbcifaaDoor
open Go.RowKit RG
attribute [local go_sem ↓] ldRow_fact stRow_fact
set_option maxRecDepth 100000 in
set_option maxHeartbeats 4000000 in
theorem rrest0 (f g : Nat → Int) (s u : ByteArray) (h0 : f 0 < 6 ∨ 10 < f 0) (w : World) :
    Calls Tryd.prog 69 #[.agg (RW.fcells f s), .agg (RW.fcells g u)] w fun e w' => e = .returned (.tuple #[.agg (RW.fcells g u), .bool false]) ∧ Below w.heap.size w w' := by
  obtain ⟨cs, hcs⟩ : ∃ cs, cs = RW.fcells f s := ⟨_, rfl⟩
  obtain ⟨ds, hds⟩ : ∃ cs, cs = RW.fcells g u := ⟨_, rfl⟩
  rw [← hcs, ← hds]
  have hcsH := hide hcs; have hdsH := hide hds
  have h6 : (f 0 == 6) = false := by simp; omega
  have h7 : (f 0 == 7) = false := by simp; omega
  have h8 : (f 0 == 8) = false := by simp; omega
  have h9 : (f 0 == 9) = false := by simp; omega
  have h10 : (f 0 == 10) = false := by simp; omega
  clear hcs hds h0
  go_enter Tryd.func69, Tryd.ntmps69
  go_upto_region 1 with fail
  rw [← fzero]
  obtain ⟨b1, hb1⟩ : ∃ b, b = w.heap.size := ⟨_, rfl⟩
  obtain ⟨b2, hb2⟩ : ∃ b, b = w.heap.size + 1 := ⟨_, rfl⟩
  obtain ⟨b3, hb3⟩ : ∃ b, b = w.heap.size + 1 + 1 := ⟨_, rfl⟩
  have hR := ((FRows.new (FRows.nil (Below.refl w.heap.size w)) f s).new g u).new RW.zeroF ⟨#[]⟩
  rw [show ((w.alloc (.cells (RW.fcells f s) 23)).alloc (.cells (RW.fcells g u) 23)).heap.size = b3 by rw [hb3]; simp, show (w.alloc (.cells (RW.fcells f s) 23)).heap.size = b2 by rw [hb2]; simp, ← hcsH.out, ← hdsH.out, ← hb1] at hR
  rw [← hb1] at ⊢
  rw [show b1 + 1 = b2 by omega]
  rw [show b2 + 1 = b3 by omega]
  have hle3 := hide (show w.heap.size ≤ b3 by omega)
  refine gen_world (FRows [(b3, RW.zeroF, ⟨#[]⟩), (b2, g, u), (b1, f, s)] w) hR ?_
  intro W hF
  clear hR hb1 hb2 hb3
  have c0 := hF.cell b1 f s (by simp) 0 (by decide)
  have l2 := hF.load b2 g u (by simp)
  have s3 := hF.store b3 RW.zeroF g ⟨#[]⟩ u (by simp)
  go_wp2_with fail
  have hE := hF.put b3 RW.zeroF g ⟨#[]⟩ u (by simp) hle3.out [(b3, g, u)] (by simp)
  refine bodyPost_ret (rest_results _ _ b3 (RW.fcells g u) false rfl rfl rfl (hE.rows (b3, g, u) (by simp))) rfl ⟨by rw [hdsH.out], hE.below⟩
set_option maxRecDepth 100000 in
set_option maxHeartbeats 4000000 in
/-- fields at the kinds that it leaves to rest -/
theorem rfieldsR (f g' : Nat → Int) (s u' : ByteArray) (ok : Bool) (h0 : f 0 < 1 ∨ 5 < f 0)
    (hc : ∀ W, Calls Tryd.prog 69 #[.agg (RW.fcells f s), .agg (RW.fcells (RW.yf f) ⟨#[]⟩)] W fun e w' => e = .returned (.tuple #[.agg (RW.fcells g' u'), .bool ok]) ∧ Below W.heap.size W w') (w : World) :
    Calls Tryd.prog 31 #[.agg (RW.fcells f s)] w fun e w' => e = .returned (.tuple #[.agg (RW.fcells g' u'), .bool ok]) ∧ Below w.heap.size w w' := by
  obtain ⟨cs, hcs⟩ : ∃ cs, cs = RW.fcells f s := ⟨_, rfl⟩
  rw [← hcs]
  rw [← hcs] at hc
  have hcsH := hide hcs
  have hcH := hide hc
  have h6 : (f 0 == 1) = false := by simp; omega
  have h7 : (f 0 == 2) = false := by simp; omega
  have h8 : (f 0 == 3) = false := by simp; omega
  have h9 : (f 0 == 4) = false := by simp; omega
  have h10 : (f 0 == 5) = false := by simp; omega
  clear hcs hc h0
  have hiY := fact_info (RW.yf f) ⟨#[]⟩
  go_enter Tryd.func31, Tryd.ntmps31
  go_upto_region 1 with fail
  rw [← fzero]
  obtain ⟨b1, hb1⟩ : ∃ b, b = w.heap.size := ⟨_, rfl⟩
  obtain ⟨b3, hb3⟩ : ∃ b, b = w.heap.size + 1 := ⟨_, rfl⟩
  have hR := (FRows.new (FRows.nil (Below.refl w.heap.size w)) f s).new RW.zeroF ⟨#[]⟩
  rw [show (w.alloc (.cells (RW.fcells f s) 23)).heap.size = b3 by rw [hb3]; simp, ← hcsH.out, ← hb1] at hR
  rw [← hb1] at ⊢
  rw [show b1 + 1 = b3 by omega]
  have hle3 := hide (show w.heap.size ≤ b3 by omega)
  have hb13 := hide (show b1 ≠ b3 by omega)
  refine gen_world (FRows [(b1, f, s), (b3, RW.zeroF, ⟨#[]⟩)] w) (hR.sub (by simp)) ?_
  intro W0 hF0
  clear hR hb1 hb3
  have c0 := hF0.cell b1 f s (by simp) 0 (by decide)
  have c2 := hF0.cell b1 f s (by simp) 2 (by decide)
  go_upto_region 2 with (refine wpList_store_new rfl 23 (.tmp 4) (.tmp 9) rfl (RW.fcells (RW.yf f) ⟨#[]⟩) rfl rfl 23 _ hiY rfl (fcells_one _ _) ?_)
  clear c0 c2 hiY
  have hR := hF0.new (RW.yf f) ⟨#[]⟩
  obtain ⟨b2, hb2⟩ : ∃ b, b = W0.heap.size := ⟨_, rfl⟩
  rw [← hb2] at hR ⊢
  refine gen_world (FRows [(b2, RW.yf f, ⟨#[]⟩), (b1, f, s), (b3, RW.zeroF, ⟨#[]⟩)] w) hR ?_
  clear hR hb2 hF0
  intro W hF
  have c0 := hF.cell b1 f s (by simp) 0 (by decide)
  have l1 := hF.load b1 f s (by simp)
  rw [← hcsH.out] at l1
  have l2 := hF.load b2 (RW.yf f) ⟨#[]⟩ (by simp)
  go_wp2_with fail
  refine (hcH.out _).mono ?_
  rintro e w2 ⟨rfl, hB2⟩
  have hF2 := hF.next hB2
  clear hF hB2 c0 l1 l2
  have s3 := hF2.store b3 RW.zeroF g' ⟨#[]⟩ u' (by simp)
  go_wp2_with fail
  have hE := hF2.put b3 RW.zeroF g' ⟨#[]⟩ u' (by simp) hle3.out [(b3, g', u')] (by simp)
  refine bodyPost_ret (fields_results _ _ b3 (RW.fcells g' u') ok rfl rfl rfl (hE.rows (b3, g', u') (by simp))) rfl ⟨rfl, hE.below⟩
set_option maxRecDepth 100000 in
set_option maxHeartbeats 4000000 in
theorem rvalid_of (f g' : Nat → Int) (s u' : ByteArray) (ok : Bool)
    (hc : ∀ W, Calls Tryd.prog 31 #[.agg (RW.fcells f s)] W fun e w' => e = .returned (.tuple #[.agg (RW.fcells g' u'), .bool ok]) ∧ Below W.heap.size W w') (w : World) :
    Calls Tryd.prog 15 #[.agg (RW.fcells f s)] w fun e w' => e = .returned (.bool ((ok && RW.dec (RW.feq g' f u' s)) && decide (1 ≤ f 2 ∧ f 2 ≤ 1000))) ∧ Below w.heap.size w w' := by
  obtain ⟨q, hq⟩ : ∃ q, q = RW.dec (RW.feq g' f u' s) := ⟨_, rfl⟩
  obtain ⟨r, hr⟩ : ∃ r, r = decide (1 ≤ f 2 ∧ f 2 ≤ 1000) := ⟨_, rfl⟩
  have hR2 : ∀ W, Calls Tryd.prog 32 #[.int .i64 (f 2), .int .i64 1, .int .i64 1000] W fun e w' => e = .returned (.bool r) ∧ W = w' := fun W => by rw [hr]; exact rwithin_any (f 2) 1 1000 W
  have hE : ∀ W, (binOp .eql 23 (.agg (RW.fcells g' u')) (.agg (RW.fcells f s))).run Tryd.prog W = .ok (.bool q) W := fun W => by rw [hq]; exact eql_feq g' f u' s W
  rw [← hq, ← hr]
  obtain ⟨cs, hcs⟩ : ∃ cs, cs = RW.fcells f s := ⟨_, rfl⟩
  obtain ⟨ds, hds⟩ : ∃ ds, ds = RW.fcells g' u' := ⟨_, rfl⟩
  have hi : (Tryd.prog.info? 23).map (·.size) = some ds.size := by rw [hds]; exact fact_info g' u'
  have hds1 : ds.size = 18 := by rw [hds]; rfl
  have hds2 : ds.all (·.oneCell') = true := by rw [hds]; exact fcells_one _ _
  rw [← hcs]
  rw [← hcs, ← hds] at hc hE
  have hcsH := hide hcs
  have hdsH := hide hds
  have hcH := hide hc
  have hEH := hide hE
  have hRH := hide hR2
  have hds1H := hide hds1
  have hds2H := hide hds2
  have hiH := hide hi
  clear hcs hds hc hq hr hE hR2 hds1 hds2 hi
  go_enter Tryd.func15, Tryd.ntmps15
  go_upto_region 1 with fail
  obtain ⟨b1, hb1⟩ : ∃ b, b = w.heap.size := ⟨_, rfl⟩
  have hR := FRows.new (FRows.nil (Below.refl w.heap.size w)) f s
  rw [← hcsH.out, ← hb1] at hR
  rw [← hb1] at ⊢
  refine gen_world (FRows [(b1, f, s)] w) hR ?_
  clear hR hb1
  intro W hF
  have l1 := hF.load b1 f s (by simp)
  rw [← hcsH.out] at l1
  go_wp2_with fail
  refine (hcH.out _).mono ?_
  rintro e w2 ⟨rfl, hB2⟩
  have hF2 := hF.next hB2
  clear hF hB2 l1
  go_upto_region 2 with (refine wpList_store_new rfl 23 (.tmp 3) (.tmp 8) rfl ds rfl rfl 23 _ hiH.out (by rw [hds1H.out]; rfl) hds2H.out ?_)
  have hF3 := hF2.new g' u'
  rw [← hdsH.out] at hF3
  obtain ⟨b3, hb3⟩ : ∃ b, b = w2.heap.size := ⟨_, rfl⟩
  rw [← hb3] at hF3 ⊢
  refine gen_world (FRows [(b3, g', u'), (b1, f, s)] w) hF3 ?_
  clear hF2 hF3 hb3
  intro w3 hF3
  have l1 := hF3.load b1 f s (by simp)
  have l3 := hF3.load b3 g' u' (by simp)
  rw [← hcsH.out] at l1
  rw [← hdsH.out] at l3
  have c2 := hF3.cell b1 f s (by simp) 2 (by decide)
  have hE := hEH.out
  cases ok
  · go_wp2_with fail
    go_ret
    exact ⟨rfl, hF3.below⟩
  · cases q
    · go_wp2_with fail
      go_ret
      exact ⟨rfl, hF3.below⟩
    · go_wp2_with fail
      refine (hRH.out _).mono ?_
      rintro e w4 ⟨rfl, rfl⟩
      go_wp2_with fail
      go_ret
      exact ⟨rfl, hF3.below⟩
end Go.Proofs.YtpihhjpgdbcifaaDoor

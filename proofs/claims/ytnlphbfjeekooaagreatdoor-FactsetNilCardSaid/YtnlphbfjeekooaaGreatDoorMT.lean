/-
  Package royaltyref05: rest and fields at the other kinds; Valid, Encode: what they return; only new memory is written.
-/
import Derived.Test.YtnlphbfjeekooaaGreatDoorRef5
import Derived.Test.YtnlphbfjeekooaaGreatDoorRef6
namespace Go.Proofs.YtnlphbfjeekooaaGreatDoor
open Go.RowKit RG
attribute [local go_sem ↓] ldRow_fact stRow_facL
set_option maxRecDepth 100000 in
set_option maxHeartbeats 4000000 in
theorem rrest0 (f g : Nat → Int) (s u : ByteArray) (h0 : f 0 < 6 ∨ 10 < f 0) (w : World) :
    Calls Tryz.prog 90 #[.agg (RW.fcells f s), .agg (RW.fcells g u)] w fun e w' => e = .returned (.tuple #[.agg (RW.fcells g u), .bool false]) ∧ Below w.heap.size w w' := by
  obtain ⟨cs, hcs⟩ : ∃ cs, cs = RW.fcells f s := ⟨_, rfl⟩
  obtain ⟨ds, hds⟩ : ∃ cs, cs = RW.fcells g u := ⟨_, rfl⟩
  rw [← hcs, ← hds]
  have hcsH := hide hcs; have hdsH := hide hds
  have h6 : (f 0 == 6) = false := by simp; omega
  have h7 : (f 0 == 7) = false := by simp; omega
  have h8 : (f 0 == 8) = false := by simp; omega
  have h9 : (f 0 == 9) = false := by simp; omega
  have h10 : (f 0 == 10) = false := by simp; omega
  clear hcs hds h0
  go_enter Tryz.func90, Tryz.ntmps90
  go_upto_region 1 with fail
  rw [← fzero]
  obtain ⟨b1, hb1⟩ : ∃ b, b = w.heap.size := ⟨_, rfl⟩
  obtain ⟨b2, hb2⟩ : ∃ b, b = w.heap.size + 1 := ⟨_, rfl⟩
  obtain ⟨b3, hb3⟩ : ∃ b, b = w.heap.size + 1 + 1 := ⟨_, rfl⟩
  have hR := ((FRows.new (FRows.nil (Below.refl w.heap.size w)) f s).new g u).new RW.zeroF ⟨#[]⟩
  rw [show ((w.alloc (.cells (RW.fcells f s) 38)).alloc (.cells (RW.fcells g u) 38)).heap.size = b3 by rw [hb3]; simp, show (w.alloc (.cells (RW.fcells f s) 38)).heap.size = b2 by rw [hb2]; simp, ← hcsH.out, ← hdsH.out, ← hb1] at hR
  rw [← hb1] at ⊢
  rw [show b1 + 1 = b2 by omega]
  rw [show b2 + 1 = b3 by omega]
  have hle3 := hide (show w.heap.size ≤ b3 by omega)
  refine gen_world (FRows [(b3, RW.zeroF, ⟨#[]⟩), (b2, g, u), (b1, f, s)] w) hR ?_
  intro W hF
  clear hR hb1 hb2 hb3
  have c0 := hF.cell b1 f s (by simp) 0 (by decide)
  have l2 := hF.load b2 g u (by simp)
  have s3 := hF.store b3 RW.zeroF g ⟨#[]⟩ u (by simp)
  go_wp2_with fail
  have hE := hF.put b3 RW.zeroF g ⟨#[]⟩ u (by simp) hle3.out [(b3, g, u)] (by simp)
  refine bodyPost_ret (rest_results _ _ b3 (RW.fcells g u) false rfl rfl rfl (hE.rows (b3, g, u) (by simp))) rfl ⟨by rw [hdsH.out], hE.below⟩
set_option maxRecDepth 100000 in
set_option maxHeartbeats 4000000 in
/-- fields at the kinds that it leaves to rest -/
theorem rfieldsR (f g' : Nat → Int) (s u' : ByteArray) (ok : Bool) (h0 : f 0 < 1 ∨ 5 < f 0)
    (hc : ∀ W, Calls Tryz.prog 90 #[.agg (RW.fcells f s), .agg (RW.fcells (RW.yf f) ⟨#[]⟩)] W fun e w' => e = .returned (.tuple #[.agg (RW.fcells g' u'), .bool ok]) ∧ Below W.heap.size W w') (w : World) :
    Calls Tryz.prog 61 #[.agg (RW.fcells f s)] w fun e w' => e = .returned (.tuple #[.agg (RW.fcells g' u'), .bool ok]) ∧ Below w.heap.size w w' := by
  obtain ⟨cs, hcs⟩ : ∃ cs, cs = RW.fcells f s := ⟨_, rfl⟩
  rw [← hcs]
  rw [← hcs] at hc
  have hcsH := hide hcs
  have hcH := hide hc
  have h6 : (f 0 == 1) = false := by simp; omega
  have h7 : (f 0 == 2) = false := by simp; omega
  have h8 : (f 0 == 3) = false := by simp; omega
  have h9 : (f 0 == 4) = false := by simp; omega
  have h10 : (f 0 == 5) = false := by simp; omega
  clear hcs hc h0
  have hiY := fact_info (RW.yf f) ⟨#[]⟩
  go_enter Tryz.func61, Tryz.ntmps61
  go_upto_region 1 with fail
  rw [← fzero]
  obtain ⟨b1, hb1⟩ : ∃ b, b = w.heap.size := ⟨_, rfl⟩
  obtain ⟨b3, hb3⟩ : ∃ b, b = w.heap.size + 1 := ⟨_, rfl⟩
  have hR := (FRows.new (FRows.nil (Below.refl w.heap.size w)) f s).new RW.zeroF ⟨#[]⟩
  rw [show (w.alloc (.cells (RW.fcells f s) 38)).heap.size = b3 by rw [hb3]; simp, ← hcsH.out, ← hb1] at hR
  rw [← hb1] at ⊢
  rw [show b1 + 1 = b3 by omega]
  have hle3 := hide (show w.heap.size ≤ b3 by omega)
  have hb13 := hide (show b1 ≠ b3 by omega)
  refine gen_world (FRows [(b1, f, s), (b3, RW.zeroF, ⟨#[]⟩)] w) (hR.sub (by simp)) ?_
  intro W0 hF0
  clear hR hb1 hb3
  have c0 := hF0.cell b1 f s (by simp) 0 (by decide)
  have c2 := hF0.cell b1 f s (by simp) 2 (by decide)
  go_upto_region 2 with (refine wpList_store_new rfl 38 (.tmp 4) (.tmp 9) rfl (RW.fcells (RW.yf f) ⟨#[]⟩) rfl rfl 38 _ hiY rfl (fcells_one _ _) ?_)
  clear c0 c2 hiY
  have hR := hF0.new (RW.yf f) ⟨#[]⟩
  obtain ⟨b2, hb2⟩ : ∃ b, b = W0.heap.size := ⟨_, rfl⟩
  rw [← hb2] at hR ⊢
  refine gen_world (FRows [(b2, RW.yf f, ⟨#[]⟩), (b1, f, s), (b3, RW.zeroF, ⟨#[]⟩)] w) hR ?_
  clear hR hb2 hF0
  intro W hF
  have c0 := hF.cell b1 f s (by simp) 0 (by decide)
  have l1 := hF.load b1 f s (by simp)
  rw [← hcsH.out] at l1
  have l2 := hF.load b2 (RW.yf f) ⟨#[]⟩ (by simp)
  go_wp2_with fail
  refine (hcH.out _).mono ?_
  rintro e w2 ⟨rfl, hB2⟩
  have hF2 := hF.next hB2
  clear hF hB2 c0 l1 l2
  have s3 := hF2.store b3 RW.zeroF g' ⟨#[]⟩ u' (by simp)
  go_wp2_with fail
  have hE := hF2.put b3 RW.zeroF g' ⟨#[]⟩ u' (by simp) hle3.out [(b3, g', u')] (by simp)
  refine bodyPost_ret (fields_results _ _ b3 (RW.fcells g' u') ok rfl rfl rfl (hE.rows (b3, g', u') (by simp))) rfl ⟨rfl, hE.below⟩
set_option maxRecDepth 100000 in
set_option maxHeartbeats 4000000 in
theorem rvalid_of (f g' : Nat → Int) (s u' : ByteArray) (ok : Bool)
    (hc : ∀ W, Calls Tryz.prog 61 #[.agg (RW.fcells f s)] W fun e w' => e = .returned (.tuple #[.agg (RW.fcells g' u'), .bool ok]) ∧ Below W.heap.size W w') (w : World) :
    Calls Tryz.prog 41 #[.agg (RW.fcells f s)] w fun e w' => e = .returned (.bool ((ok && RW.dec (RW.feq g' f u' s)) && decide (1 ≤ f 2 ∧ f 2 ≤ 1000))) ∧ Below w.heap.size w w' := by
  obtain ⟨q, hq⟩ : ∃ q, q = RW.dec (RW.feq g' f u' s) := ⟨_, rfl⟩
  obtain ⟨r, hr⟩ : ∃ r, r = decide (1 ≤ f 2 ∧ f 2 ≤ 1000) := ⟨_, rfl⟩
  have hR2 : ∀ W, Calls Tryz.prog 62 #[.int .i64 (f 2), .int .i64 1, .int .i64 1000] W fun e w' => e = .returned (.bool r) ∧ W = w' := fun W => by rw [hr]; exact rwithin_any (f 2) 1 1000 W
  have hE : ∀ W, (binOp .eql 38 (.agg (RW.fcells g' u')) (.agg (RW.fcells f s))).run Tryz.prog W = .ok (.bool q) W := fun W => by rw [hq]; exact eql_feq g' f u' s W
  rw [← hq, ← hr]
  obtain ⟨cs, hcs⟩ : ∃ cs, cs = RW.fcells f s := ⟨_, rfl⟩
  obtain ⟨ds, hds⟩ : ∃ ds, ds = RW.fcells g' u' := ⟨_, rfl⟩
  have hi : (Tryz.prog.info? 38).map (·.size) = some ds.size := by rw [hds]; exact fact_info g' u'
  have hds1 : ds.size = 18 := by rw [hds]; rfl
  have hds2 : ds.all (·.oneCell') = true := by rw [hds]; exact fcells_one _ _
  rw [← hcs]
  rw [← hcs, ← hds] at hc hE
  have hcsH := hide hcs
  have hdsH := hide hds
  have hcH := hide hc
  have hEH := hide hE
  have hRH := hide hR2
  have hds1H := hide hds1
  have hds2H := hide hds2
  have hiH := hide hi
  clear hcs hds hc hq hr hE hR2 hds1 hds2 hi
  go_enter Tryz.func41, Tryz.ntmps41
  go_upto_region 1 with fail
  obtain ⟨b1, hb1⟩ : ∃ b, b = w.heap.size := ⟨_, rfl⟩
  have hR := FRows.new (FRows.nil (Below.refl w.heap.size w)) f s
  rw [← hcsH.out, ← hb1] at hR
  rw [← hb1] at ⊢
  refine gen_world (FRows [(b1, f, s)] w) hR ?_
  clear hR hb1
  intro W hF
  have l1 := hF.load b1 f s (by simp)
  rw [← hcsH.out] at l1
  go_wp2_with fail
  refine (hcH.out _).mono ?_
  rintro e w2 ⟨rfl, hB2⟩
  have hF2 := hF.next hB2
  clear hF hB2 l1
  go_upto_region 2 with (refine wpList_store_new rfl 38 (.tmp 3) (.tmp 8) rfl ds rfl rfl 38 _ hiH.out (by rw [hds1H.out]; rfl) hds2H.out ?_)
  have hF3 := hF2.new g' u'
  rw [← hdsH.out] at hF3
  obtain ⟨b3, hb3⟩ : ∃ b, b = w2.heap.size := ⟨_, rfl⟩
  rw [← hb3] at hF3 ⊢
  refine gen_world (FRows [(b3, g', u'), (b1, f, s)] w) hF3 ?_
  clear hF2 hF3 hb3
  intro w3 hF3
  have l1 := hF3.load b1 f s (by simp)
  have l3 := hF3.load b3 g' u' (by simp)
  rw [← hcsH.out] at l1
  rw [← hdsH.out] at l3
  have c2 := hF3.cell b1 f s (by simp) 2 (by decide)
  have hE := hEH.out
  cases ok
  · go_wp2_with fail
    go_ret
    exact ⟨rfl, hF3.below⟩
  · cases q
    · go_wp2_with fail
      go_ret
      exact ⟨rfl, hF3.below⟩
    · go_wp2_with fail
      refine (hRH.out _).mono ?_
      rintro e w4 ⟨rfl, rfl⟩
      go_wp2_with fail
      go_ret
      exact ⟨rfl, hF3.below⟩
end Go.Proofs.YtnlphbfjeekooaaGreatDoor

/-
  Package royaltyref05: Valid, for every fact: it returns what the program's Valid returns; only new memory is written.
-/
namespace Go.Proofs.YtnlphbfjeekooaaGreatDoor
open Go.RowKit RG
namespace RW
theorem gst_succ (g : Nat → Int) (L : List (Nat × Int)) (j : Nat) (x : Nat × Int) (h : L[j]? = some x) : gst g L (j + 1) = upd (gst g L j) x.1 x.2 := by
  unfold gst
  rw [List.take_add_one, h]
  simp
theorem gst_get (f g : Nat → Int) (idx : List Nat) (i : Nat) : ∀ j, j ≤ idx.length → gst g (idx.map fun i => (i, f i)) j i = if i ∈ idx.take j then f i else g i := by
  intro j
  induction j with
  | zero => intro _; simp [gst]
  | succ j ih =>
    intro hj
    rw [gst_succ g _ j (idx[j], f idx[j]) (by rw [List.getElem?_map, List.getElem?_eq_getElem (by omega)]; rfl)]
    have ht : i ∈ idx.take (j + 1) ↔ i ∈ idx.take j ∨ i = idx[j] := by
      rw [List.take_succ_eq_append_getElem (by omega), List.mem_append, List.mem_singleton]
    unfold upd
    rw [ih (by omega)]
    by_cases h : i = idx[j]
    · rw [if_pos h, if_pos (ht.2 (.inr h)), h]
    · rw [if_neg h]
      by_cases h2 : i ∈ idx.take j
      · rw [if_pos h2, if_pos (ht.2 (.inl h2))]
      · rw [if_neg h2, if_neg (fun hh => by rcases ht.1 hh with hh | hh <;> contradiction)]
theorem val_gen (f : Nat → Int) (s u : ByteArray) (k : Nat) (hk : 1 ≤ k ∧ k ≤ 10) (h0 : f 0 = k) (idx : List Nat) (hix : idx = (kf k (f 12)).map (·.1)) (hu : u = if textK k = true then s else ⟨#[]⟩) (ok : Bool)
    (hok : ok = true ↔ (∀ x ∈ kf k (f 12), x.2.1 ≤ f x.1 ∧ f x.1 ≤ x.2.2) ∧ (textK k = true → s.size ≤ 2000)) :
    ((ok && dec (feq (gst (yf f) (idx.map fun i => (i, f i)) idx.length) f u s)) && decide (1 ≤ f 2 ∧ f 2 ≤ 1000)) = validB f s.size := by
  rw [Bool.eq_iff_iff]
  simp only [Bool.and_eq_true, decide_eq_true_iff, dec_iff, hok]
  unfold validB validK
  rw [dec_iff, dec_iff]
  have hkn : (f 0).toNat = k := by omega
  rw [hkn]
  have hmem : ∀ i, i ∈ idx ↔ ¬ ∀ x ∈ kf k (f 12), x.1 ≠ i := by
    intro i
    rw [hix, List.mem_map]
    constructor
    · rintro ⟨x, hx, rfl⟩ h; exact h x hx rfl
    · intro h
      simp only [Classical.not_forall, Decidable.not_not] at h
      obtain ⟨x, hx, hxi⟩ := h
      exact ⟨x, hx, by simpa using hxi⟩
  have hfe : feq (gst (yf f) (idx.map fun i => (i, f i)) idx.length) f u s ↔ (∀ i, i < 17 → i ≠ 0 → i ≠ 2 → (∀ x ∈ kf k (f 12), x.1 ≠ i) → f i = 0) ∧ u = s := by
    unfold feq
    refine and_congr ⟨fun h i hi h0 h2 hx => ?_, fun h i hi => ?_⟩ Iff.rfl
    · have := h i hi
      rw [gst_get f (yf f) idx i _ (Nat.le_refl _), List.take_length, if_neg (fun hm => (hmem i).1 hm hx)] at this
      unfold yf at this
      rw [if_neg h0, if_neg h2] at this
      exact this.symm
    · rw [gst_get f (yf f) idx i _ (Nat.le_refl _), List.take_length]
      by_cases hm : i ∈ idx
      · rw [if_pos hm]
      · rw [if_neg hm]
        have hx : ∀ x ∈ kf k (f 12), x.1 ≠ i := Classical.byContradiction fun hn => hm ((hmem i).2 hn)
        unfold yf
        by_cases h0 : i = 0
        · rw [if_pos h0, h0]
        · by_cases h2 : i = 2
          · rw [if_neg h0, if_pos h2, h2]
          · rw [if_neg h0, if_neg h2]; exact (h i hi h0 h2 hx).symm
  rw [hfe]
  cases ht : textK k with
  | true =>
    rw [ht] at hu
    simp only [if_true] at hu
    constructor
    · rintro ⟨⟨⟨h1, h2⟩, h3, h4⟩, h5⟩
      exact ⟨⟨by omega, by omega⟩, h5, h2 rfl, h1, .inl rfl, h3⟩
    · rintro ⟨_, h5, h6, h1, _, h3⟩
      exact ⟨⟨⟨h1, fun _ => h6⟩, h3, hu⟩, h5⟩
  | false =>
    rw [ht] at hu
    simp only [Bool.false_eq_true, if_false] at hu
    constructor
    · rintro ⟨⟨⟨h1, _⟩, h3, h4⟩, h5⟩
      have hs : s.size = 0 := (bytes_nil s).1 (h4.symm.trans hu)
      exact ⟨⟨by omega, by omega⟩, h5, by omega, h1, .inr hs, h3⟩
    · rintro ⟨_, h5, h6, h1, h7, h3⟩
      have hs : s.size = 0 := by
        rcases h7 with h7 | h7
        · cases h7
        · exact h7
      exact ⟨⟨⟨h1, fun h => by cases h⟩, h3, hu.trans ((bytes_nil s).2 hs).symm⟩, h5⟩
theorem val_no (f : Nat → Int) (n : Nat) (h : f 0 < 1 ∨ 10 < f 0) : validB f n = false := dec_false (fun h' => by have := h'.1; omega)
end RW
set_option maxRecDepth 100000 in
theorem rvalid_any (f : Nat → Int) (s : ByteArray) (hs : s.size ≤ 9223372036854775807) (w : World) :
    Calls Tryz.prog 41 #[.agg (RW.fcells f s)] w fun e w' => e = .returned (.bool (RW.validB f s.size)) ∧ Below w.heap.size w w' := by
  have h0 : f 0 = 1 ∨ f 0 = 2 ∨ f 0 = 3 ∨ f 0 = 4 ∨ f 0 = 5 ∨ f 0 = 6 ∨ f 0 = 7 ∨ f 0 = 8 ∨ f 0 = 9 ∨ f 0 = 10 ∨ (f 0 < 1 ∨ 10 < f 0) := by omega
  rcases h0 with h | h | h | h | h | h | h | h | h | h | h
  · rw [← RW.val_gen f s ⟨#[]⟩ 1 (by decide) h [1, 5, 6, 7, 8, 4, 13, 16] rfl rfl (((((((decide (1 ≤ f 1 ∧ f 1 ≤ 1000000) && decide (1 ≤ f 5 ∧ f 5 ≤ 1000000)) && decide (1 ≤ f 6 ∧ f 6 ≤ 1000000)) && decide (1 ≤ f 7 ∧ f 7 ≤ 1000000)) && decide (0 ≤ f 8 ∧ f 8 ≤ 7)) && decide (0 ≤ f 4 ∧ f 4 ≤ 3155759999)) && decide (0 ≤ f 13 ∧ f 13 ≤ 86400000)) && decide (0 ≤ f 16 ∧ f 16 ≤ 1))
      (by simp [RW.kf, RW.textK]; omega)]
    exact rvalid_of f _ s _ _ (fun W => rfields1 f s h W) w
  · rw [← RW.val_gen f s ⟨#[]⟩ 2 (by decide) h [6, 1, 16] rfl rfl ((decide (1 ≤ f 6 ∧ f 6 ≤ 1000000) && decide (1 ≤ f 1 ∧ f 1 ≤ 1000000)) && decide (1 ≤ f 16 ∧ f 16 ≤ 3))
      (by simp [RW.kf, RW.textK]; omega)]
    exact rvalid_of f _ s _ _ (fun W => rfields2 f s h W) w
  · rw [← RW.val_gen f s ⟨#[]⟩ 3 (by decide) h [1, 7, 9, 10, 8, 11, 12, 14] rfl rfl ((((((((decide (1 ≤ f 1 ∧ f 1 ≤ 1000000) && decide (1 ≤ f 7 ∧ f 7 ≤ 1000000)) && decide (1 ≤ f 9 ∧ f 9 ≤ 1000000)) && decide (1 ≤ f 10 ∧ f 10 ≤ 2)) && decide (1 ≤ f 8 ∧ f 8 ≤ 255)) && decide (0 ≤ f 11)) && decide (f 11 < f 12)) && decide (f 12 ≤ 1200)) && decide (0 ≤ f 14 ∧ f 14 ≤ 1000000))
      (by
        by_cases h12 : 1 ≤ f 12 ∧ f 12 ≤ 1200
        · have hw : IntKind.i64.wrap (f 12 - 1) = f 12 - 1 := IntWalk.i64_in _ (by omega)
          simp [RW.kf, RW.textK, hw]; omega
        · simp [RW.kf, RW.textK]; omega)]
    exact rvalid_of f _ s _ _ (fun W => rfields3 f s h W) w
  · rw [← RW.val_gen f s s 4 (by decide) h [9, 11] rfl rfl ((decide (1 ≤ f 9 ∧ f 9 ≤ 1000000) && decide (0 ≤ f 11 ∧ f 11 ≤ 1199)) && decide ((s.size : Int) ≤ 2000))
      (by simp [RW.kf, RW.textK]; omega)]
    exact rvalid_of f _ s _ _ (fun W => rfields4 f s h hs W) w
  · rw [← RW.val_gen f s ⟨#[]⟩ 5 (by decide) h [1, 3, 8, 13, 15] rfl rfl ((((decide (1 ≤ f 1 ∧ f 1 ≤ 1000000) && decide (0 ≤ f 3 ∧ f 3 ≤ 1199)) && decide (0 ≤ f 8 ∧ f 8 ≤ 7)) && decide (0 ≤ f 13 ∧ f 13 ≤ 10000000000)) && decide (0 ≤ f 15 ∧ f 15 ≤ 20))
      (by simp [RW.kf, RW.textK]; omega)]
    exact rvalid_of f _ s _ _ (fun W => rfields5 f s h W) w
  · rw [← RW.val_gen f s ⟨#[]⟩ 6 (by decide) h [5, 3, 8, 13, 15] rfl rfl ((((decide (1 ≤ f 5 ∧ f 5 ≤ 1000000) && decide (0 ≤ f 3 ∧ f 3 ≤ 1199)) && decide (0 ≤ f 8 ∧ f 8 ≤ 7)) && decide (0 ≤ f 13 ∧ f 13 ≤ 1000000000)) && decide (0 ≤ f 15 ∧ f 15 ≤ 20))
      (by simp [RW.kf, RW.textK]; omega)]
    exact rvalid_of f _ s _ _ (fun W => rfieldsR f _ s _ _ (by omega) (fun W => rrest6 f (RW.yf f) s ⟨#[]⟩ h W) W) w
  · rw [← RW.val_gen f s ⟨#[]⟩ 7 (by decide) h [15, 3, 13] rfl rfl ((decide (1 ≤ f 15 ∧ f 15 ≤ 20) && decide (0 ≤ f 3 ∧ f 3 ≤ 1199)) && decide (1 ≤ f 13 ∧ f 13 ≤ 10000000))
      (by simp [RW.kf, RW.textK]; omega)]
    exact rvalid_of f _ s _ _ (fun W => rfieldsR f _ s _ _ (by omega) (fun W => rrest7 f (RW.yf f) s ⟨#[]⟩ h W) W) w
  · rw [← RW.val_gen f s ⟨#[]⟩ 8 (by decide) h [1, 5, 3, 13] rfl rfl (((decide (1 ≤ f 1 ∧ f 1 ≤ 1000000) && decide (1 ≤ f 5 ∧ f 5 ≤ 1000)) && decide (0 ≤ f 3 ∧ f 3 ≤ 1199)) && decide (0 ≤ f 13 ∧ f 13 ≤ 100000000000))
      (by simp [RW.kf, RW.textK]; omega)]
    exact rvalid_of f _ s _ _ (fun W => rfieldsR f _ s _ _ (by omega) (fun W => rrest8 f (RW.yf f) s ⟨#[]⟩ h W) W) w
  · rw [← RW.val_gen f s s 9 (by decide) h [11] rfl rfl (decide (0 ≤ f 11 ∧ f 11 ≤ 1199) && decide ((s.size : Int) ≤ 2000))
      (by simp [RW.kf, RW.textK]; omega)]
    exact rvalid_of f _ s _ _ (fun W => rfieldsR f _ s _ _ (by omega) (fun W => rrest9 f (RW.yf f) s ⟨#[]⟩ h hs W) W) w
  · rw [← RW.val_gen f s ⟨#[]⟩ 10 (by decide) h [8, 11, 16] rfl rfl ((decide (0 ≤ f 8 ∧ f 8 ≤ 7) && decide (0 ≤ f 11 ∧ f 11 ≤ 1199)) && decide (1 ≤ f 16 ∧ f 16 ≤ 2))
      (by simp [RW.kf, RW.textK]; omega)]
    exact rvalid_of f _ s _ _ (fun W => rfieldsR f _ s _ _ (by omega) (fun W => rrest10 f (RW.yf f) s ⟨#[]⟩ h W) W) w
  · rw [RW.val_no f _ h]
    refine (rvalid_of f _ s _ false (fun W => rfieldsR f _ s _ _ (by omega) (fun W => rrest0 f (RW.yf f) s ⟨#[]⟩ (by omega) W) W) w).mono ?_
    rintro e w' ⟨h1, h2⟩
    exact ⟨by rw [h1]; rfl, h2⟩
end Go.Proofs.YtnlphbfjeekooaaGreatDoor

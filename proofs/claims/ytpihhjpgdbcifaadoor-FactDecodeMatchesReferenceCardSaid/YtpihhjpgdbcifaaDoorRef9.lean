/-
  Package royaltyref05: Encode, Prevails: they return what the program's return; only new memory is written.
-/
import Derived.Test.YtpihhjpgdbcifaaDoorRef8
namespace Go.Proofs.YtpihhjpgdbcifaaDoor
open Go.RowKit RG
attribute [local go_sem ↓] ldRow_fact stRow_fact
set_option maxRecDepth 100000 in
set_option maxHeartbeats 4000000 in
theorem rencode_any (f : Nat → Int) (s : ByteArray) (hs : s.size ≤ 9223372036854775807) (w : World) :
    Calls Tryd.prog 22 #[.agg (RW.fcells f s)] w fun e w' => e = .returned (RW.encR f s) ∧ Below w.heap.size w w' := by
  have hV := fun W => rvalid_any f s hs W
  cases hv : RW.validB f s.size
  · rw [RW.encR_no _ _ hv]
    rw [hv] at hV
    obtain ⟨cs, hcs⟩ : ∃ cs, cs = RW.fcells f s := ⟨_, rfl⟩
    rw [← hcs] at hV ⊢
    have hcsH := hide hcs
    have hVH := hide hV
    clear hcs hV hv
    go_enter Tryd.func22, Tryd.ntmps22
    go_upto_region 1 with fail
    obtain ⟨b1, hb1⟩ : ∃ b, b = w.heap.size := ⟨_, rfl⟩
    have hR := FRows.new (FRows.nil (Below.refl w.heap.size w)) f s
    rw [← hcsH.out, ← hb1] at hR
    rw [← hb1] at ⊢
    refine gen_world (FRows [(b1, f, s)] w) hR ?_
    clear hR hb1
    intro W hF
    have l1 := hF.load b1 f s (by simp)
    rw [← hcsH.out] at l1
    go_wp2_with fail
    refine (hVH.out _).mono ?_
    rintro e w2 ⟨rfl, hB2⟩
    go_wp2
    go_ret2
    exact ⟨rfl, (hF.next hB2).below⟩
  · rw [RW.encR_yes _ _ hv]
    obtain ⟨h1, _, _, h2⟩ := RW.valid_lims f s.size hv
    have hW := fun W => rwritten_any f s (by omega) h2 W
    obtain ⟨T, hT⟩ : ∃ T : ByteArray, T = ⟨(RW.encL f s.data.toList).toArray⟩ := ⟨_, rfl⟩
    rw [← hT] at hW ⊢
    rw [hv] at hV
    obtain ⟨cs, hcs⟩ : ∃ cs, cs = RW.fcells f s := ⟨_, rfl⟩
    rw [← hcs] at hV hW ⊢
    have hcsH := hide hcs
    have hVH := hide hV
    have hWH := hide hW
    clear hcs hV hv hW hT h1 h2
    go_enter Tryd.func22, Tryd.ntmps22
    go_upto_region 1 with fail
    obtain ⟨b1, hb1⟩ : ∃ b, b = w.heap.size := ⟨_, rfl⟩
    have hR := FRows.new (FRows.nil (Below.refl w.heap.size w)) f s
    rw [← hcsH.out, ← hb1] at hR
    rw [← hb1] at ⊢
    refine gen_world (FRows [(b1, f, s)] w) hR ?_
    clear hR hb1
    intro W hF
    have l1 := hF.load b1 f s (by simp)
    rw [← hcsH.out] at l1
    go_wp2_with fail
    refine (hVH.out _).mono ?_
    rintro e w2 ⟨rfl, hB2⟩
    have hF2 := hF.next hB2
    clear hF hB2 l1
    have l1 := hF2.load b1 f s (by simp)
    rw [← hcsH.out] at l1
    go_wp2_with fail
    refine (hWH.out _).mono ?_
    rintro e w3 ⟨rfl, hB3⟩
    go_wp2
    go_ret2
    exact ⟨rfl, (hF2.next hB3).below⟩
namespace RW
/-- the string and the error of Encode -/
noncomputable def encS (f : Nat → Int) (s : ByteArray) : ByteArray := match validB f s.size with
  | true => ⟨(encL f s.data.toList).toArray⟩
  | false => ⟨#[]⟩
noncomputable def encE (f : Nat → Int) (s : ByteArray) : Int := match validB f s.size with
  | true => 0
  | false => 50
theorem encR_eq (f : Nat → Int) (s : ByteArray) : encR f s = .tuple #[.string (encS f s), .int .i64 (encE f s)] := by
  unfold encR encS encE
  cases validB f s.size <;> rfl
theorem encE_ne (f : Nat → Int) (s : ByteArray) : (encE f s != 0) = !validB f s.size := by
  unfold encE
  cases validB f s.size <;> rfl
theorem gtr_cmp : ∀ a b : List UInt8, (!(Op.bytesLess a b || a == b)) = decide (0 < Lib.compareBytes a b)
  | [], [] => by simp [Op.bytesLess, Lib.compareBytes]
  | [], _ :: _ => by simp [Op.bytesLess, Lib.compareBytes]
  | _ :: _, [] => by simp [Op.bytesLess, Lib.compareBytes]
  | a :: l, b :: m => by
    have ih := gtr_cmp l m
    rw [Op.bytesLess, Lib.compareBytes]
    by_cases h1 : a < b
    · simp [h1]
    · by_cases h2 : b < a
      · have hne : a ≠ b := fun h => by subst h; exact h1 h2
        simp [h1, h2, hne]
      · have he : a = b := by
          have h3 : a.toNat = b.toNat := by
            have e1 : ¬ a.toNat < b.toNat := fun h => h1 (by rwa [UInt8.lt_iff_toNat_lt])
            have e2 : ¬ b.toNat < a.toNat := fun h => h2 (by rwa [UInt8.lt_iff_toNat_lt])
            omega
          exact UInt8.toNat_inj.1 h3
        subst he
        rw [if_neg h1, if_neg h1, ← ih]
        simp
theorem prev_eq (f g : Nat → Int) (s u : ByteArray) (o2 : Bool) (ho : o2 = (!validB f s.size || !validB g u.size)) (z : Bool) (hz : z = (o2 || !dec (f 0 = g 0 ∧ (keyV f).1 = (keyV g).1 ∧ (keyV f).2 = (keyV g).2))) :
    prevB f g s u = (!z && (decide (g 2 < f 2) || (decide (f 2 = g 2) && !(Op.bytesLess (encS f s).toList (encS g u).toList || (encS f s).toList == (encS g u).toList)))) := by
  rw [gtr_cmp]
  symm
  unfold prevB
  refine dec_eq ?_
  subst ho hz
  unfold encS
  cases h1 : validB f s.size
  · simp
  · cases h2 : validB g u.size
    · simp
    · simp [dec_iff, ByteArray.toList_eq]
end RW
theorem op_neq {ev : Operand → Value} {o : Oper} {x y : Operand} {m n : Int} {T : TypeId} {w : World} (ho : o.op = .binOp .neq T x y T) (hx : ev x = .int .i64 m) (hy : ev y = .int .i64 n) : (execOp ev o).run Tryd.prog w = .ok (.value (.bool (m != n))) w := by
  unfold execOp
  rw [ho]
  simp only [hx, hy]
  go_simp
theorem op_neq_key {ev : Operand → Value} {o : Oper} {x y : Operand} {a b c a' b' c' : Int} {w : World} (ho : o.op = .binOp .neq 28 x y 28) (hx : ev x = .agg #[.int .i64 a, .int .i64 b, .int .i64 c]) (hy : ev y = .agg #[.int .i64 a', .int .i64 b', .int .i64 c']) :
    (execOp ev o).run Tryd.prog w = .ok (.value (.bool (!RW.dec (a = a' ∧ b = b' ∧ c = c')))) w := by
  have h := fun w => neq_key a b c a' b' c' w
  unfold execOp
  rw [ho]
  simp only [hx, hy, Sem.run_bind, h, Result.andThen_ok, Sem.run_pure]
  clear h
  go_simp
theorem cf_key : ∀ args w, (callFunc 18 args).run Tryd.prog w = .ok (.enter 18 args) w := fun args w => by go_simp
set_option maxRecDepth 100000 in
set_option maxHeartbeats 4000000 in
theorem rprev_any (f g : Nat → Int) (s u : ByteArray) (hs : s.size ≤ 9223372036854775807) (hu : u.size ≤ 9223372036854775807) (w : World) :
    Calls Tryd.prog 20 #[.agg (RW.fcells f s), .agg (RW.fcells g u)] w fun e w' => e = .returned (.bool (RW.prevB f g s u)) ∧ Below w.heap.size w w' := by
  have hE1 := fun W => rencode_any f s hs W
  have hE2 := fun W => rencode_any g u hu W
  rw [RW.encR_eq] at hE1 hE2
  have hn1 := RW.encE_ne f s
  have hn2 := RW.encE_ne g u
  obtain ⟨x, hx⟩ : ∃ x, x = RW.encS f s := ⟨_, rfl⟩
  obtain ⟨y, hy⟩ : ∃ x, x = RW.encS g u := ⟨_, rfl⟩
  obtain ⟨m, hm⟩ : ∃ x, x = RW.encE f s := ⟨_, rfl⟩
  obtain ⟨n, hn⟩ : ∃ x, x = RW.encE g u := ⟨_, rfl⟩
  rw [← hx, ← hm] at hE1
  rw [← hy, ← hn] at hE2
  rw [← hm] at hn1
  rw [← hn] at hn2
  have hK1 := fun W => rkey_any f s W
  have hK2 := fun W => rkey_any g u W
  obtain ⟨p, hp⟩ : ∃ p, p = RW.prevB f g s u := ⟨_, rfl⟩
  rw [← hp]
  obtain ⟨cs, hcs⟩ : ∃ cs, cs = RW.fcells f s := ⟨_, rfl⟩
  obtain ⟨ds, hds⟩ : ∃ cs, cs = RW.fcells g u := ⟨_, rfl⟩
  rw [← hcs] at hE1 hK1 ⊢
  rw [← hds] at hE2 hK2 ⊢
  have hcsH := hide hcs; have hdsH := hide hds; have hE1H := hide hE1; have hE2H := hide hE2; have hK1H := hide hK1; have hK2H := hide hK2; have hpH := hide hp
  have hxH := hide hx; have hyH := hide hy; have hn1H := hide hn1; have hn2H := hide hn2
  clear hcs hds hE1 hE2 hK1 hK2 hp hx hy hm hn hn1 hn2
  go_enter Tryd.func20, Tryd.ntmps20
  go_upto_region 1 with fail
  obtain ⟨b1, hb1⟩ : ∃ b, b = w.heap.size := ⟨_, rfl⟩
  obtain ⟨b2, hb2⟩ : ∃ b, b = w.heap.size + 1 := ⟨_, rfl⟩
  have hR := (FRows.new (FRows.nil (Below.refl w.heap.size w)) f s).new g u
  rw [show (w.alloc (.cells (RW.fcells f s) 23)).heap.size = b2 by rw [hb2]; simp, ← hcsH.out, ← hdsH.out, ← hb1] at hR
  rw [← hb1] at ⊢
  rw [show b1 + 1 = b2 by omega]
  refine gen_world (FRows [(b2, g, u), (b1, f, s)] w) hR ?_
  clear hR hb1 hb2
  intro W hF
  have l1 := hF.load b1 f s (by simp)
  rw [← hcsH.out] at l1
  go_upto_region 2 with (refine (hE1H.out _).mono ?_; rintro e w2 ⟨rfl, hB2⟩)
  have hF2 := hF.next hB2
  clear hF hB2 l1
  have l2 := hF2.load b2 g u (by simp)
  rw [← hdsH.out] at l2
  go_upto_region 3 with (refine (hE2H.out _).mono ?_; rintro e w3 ⟨rfl, hB3⟩)
  obtain ⟨i1, hi1'⟩ : ∃ i, (m != 0) = i := ⟨_, rfl⟩
  obtain ⟨i2, hi2'⟩ : ∃ i, (n != 0) = i := ⟨_, rfl⟩
  obtain ⟨o2, ho2'⟩ : ∃ i, i = (i1 || i2) := ⟨_, rfl⟩
  obtain ⟨d, hd'⟩ : ∃ i, i = !RW.dec (f 0 = g 0 ∧ (RW.keyV f).1 = (RW.keyV g).1 ∧ (RW.keyV f).2 = (RW.keyV g).2) := ⟨_, rfl⟩
  obtain ⟨z, hz'⟩ : ∃ i, i = (o2 || d) := ⟨_, rfl⟩
  have hi1 := hide hi1'; have hi2 := hide hi2'; have ho2 := hide ho2'; have hd := hide hd'; have hz := hide hz'
  clear hi1' hi2' ho2' hd' hz'
  have hF3 := hF2.next hB3
  clear hF2 hB3 l2
  refine wp_region_staged (fun _ => FRows [(b2, g, u), (b1, f, s)] w) [] (by kernel_rfl) (by kernel_rfl) (by rfl) hF3.drew ?_
  refine st_val (.int .i64 m) (by rfl) (by rfl) (fun w => rfl) ?_
  simp only [Act.put, List.setIfInBounds_toArray, List.set_cons_zero, List.set_cons_succ]
  refine st_val (.bool i1) (by rfl) (by rfl) (fun w => by rw [← hi1.out]; exact op_neq rfl rfl rfl) ?_
  simp only [Act.put, List.setIfInBounds_toArray, List.set_cons_zero, List.set_cons_succ]
  refine st_val (.bool i1) (by rfl) (by rfl) (fun w => rfl) ?_
  simp only [Act.put, List.setIfInBounds_toArray, List.set_cons_zero, List.set_cons_succ]
  refine st_if (!i1) (.int .i64 n) (by cases i1 <;> rfl) (by rfl) (fun hq j w _ hS => by exact ⟨rfl, hS⟩) ?_
  simp only [Act.put, List.setIfInBounds_toArray, List.set_cons_zero, List.set_cons_succ]
  refine st_if (!i1) (.bool i2) (by cases i1 <;> rfl) (by rfl) (fun hq j w _ hS => by rw [op_neq rfl (gd_pos hq) rfl, hi2.out]; exact ⟨rfl, hS⟩) ?_
  simp only [Act.put, List.setIfInBounds_toArray, List.set_cons_zero, List.set_cons_succ]
  refine st_val (.bool o2) (by rfl) (by rfl) (fun w => op_pick rfl rfl rfl rfl (by rw [ho2.out]; cases i1 <;> rfl)) ?_
  simp only [Act.put, List.setIfInBounds_toArray, List.set_cons_zero, List.set_cons_succ]
  refine st_val (.bool o2) (by rfl) (by rfl) (fun w => rfl) ?_
  simp only [Act.put, List.setIfInBounds_toArray, List.set_cons_zero, List.set_cons_succ]
  refine st_if (!o2) (.agg cs) (by cases o2 <;> rfl) (by rfl) (fun hq j w _ hS => by rw [op_load_fact rfl rfl (hcsH.out ▸ hS.load b1 f s (by simp))]; exact ⟨rfl, hS⟩) ?_
  simp only [Act.put, List.setIfInBounds_toArray, List.set_cons_zero, List.set_cons_succ]
  refine st_if (!o2) (.agg #[.int .i64 (f 0), .int .i64 (RW.keyV f).1, .int .i64 (RW.keyV f).2]) (by cases o2 <;> rfl) (by rfl) (fun hq j w _ hS => by rw [op_call1 rfl rfl (gd_pos hq) cf_key]; exact (hK1H.out w).mono fun e w' h => by obtain ⟨rfl, hB⟩ := h; exact ⟨rfl, hS.next hB⟩) ?_
  simp only [Act.put, List.setIfInBounds_toArray, List.set_cons_zero, List.set_cons_succ]
  refine st_if (!o2) (.agg ds) (by cases o2 <;> rfl) (by rfl) (fun hq j w _ hS => by rw [op_load_fact rfl rfl (hdsH.out ▸ hS.load b2 g u (by simp))]; exact ⟨rfl, hS⟩) ?_
  simp only [Act.put, List.setIfInBounds_toArray, List.set_cons_zero, List.set_cons_succ]
  refine st_if (!o2) (.agg #[.int .i64 (g 0), .int .i64 (RW.keyV g).1, .int .i64 (RW.keyV g).2]) (by cases o2 <;> rfl) (by rfl) (fun hq j w _ hS => by rw [op_call1 rfl rfl (gd_pos hq) cf_key]; exact (hK2H.out w).mono fun e w' h => by obtain ⟨rfl, hB⟩ := h; exact ⟨rfl, hS.next hB⟩) ?_
  simp only [Act.put, List.setIfInBounds_toArray, List.set_cons_zero, List.set_cons_succ]
  refine st_if (!o2) (.bool d) (by cases o2 <;> rfl) (by rfl) (fun hq j w _ hS => by rw [op_neq_key rfl (gd_pos hq) (gd_pos hq), ← hd.out]; exact ⟨rfl, hS⟩) ?_
  simp only [Act.put, List.setIfInBounds_toArray, List.set_cons_zero, List.set_cons_succ]
  refine st_val (.bool z) (by rfl) (by rfl) (fun w => op_pick rfl rfl rfl rfl (by rw [hz.out]; cases o2 <;> rfl)) ?_
  simp only [Act.put, List.setIfInBounds_toArray, List.set_cons_zero, List.set_cons_succ]
  refine st_nil ?_
  intro W4 hF4
  replace hF4 : FRows [(b2, g, u), (b1, f, s)] w W4 := hF4
  have hpq := RW.prev_eq f g s u o2 (by rw [ho2.out, ← hi1.out, ← hi2.out, hn1H.out, hn2H.out]) z (by rw [hz.out, hd.out])
  rw [← hpH.out, ← hxH.out, ← hyH.out] at hpq
  have hpqH := hide hpq
  clear hpq hF3
  cases z
  · have c1 := hF4.cell b1 f s (by simp) 2 (by decide)
    have c2 := hF4.cell b2 g u (by simp) 2 (by decide)
    by_cases h1 : g 2 < f 2
    · have h1' : decide (g 2 < f 2) = true := by simpa using h1
      go_wp2_with fail
      go_ret
      exact ⟨by rw [hpqH.out, h1']; rfl, hF4.below⟩
    · have h1' : decide (g 2 < f 2) = false := by simpa using h1
      by_cases h2 : f 2 = g 2
      · have h2' : (f 2 == g 2) = true := by simpa using h2
        have h2H := hide h2
        clear h2
        go_wp2_with fail
        go_ret
        exact ⟨by rw [hpqH.out, h1', decide_eq_true h2H.out]; simp, hF4.below⟩
      · have h2' : (f 2 == g 2) = false := by simpa using h2
        have h2H := hide h2
        clear h2
        go_wp2_with fail
        go_ret
        exact ⟨by rw [hpqH.out, h1', decide_eq_false h2H.out]; rfl, hF4.below⟩
  · go_wp2_with fail
    go_ret
    exact ⟨by rw [hpqH.out]; rfl, hF4.below⟩
end Go.Proofs.YtpihhjpgdbcifaaDoor

/-
  royaltyref05.ID; royaltylaw05.FactEncodeMatchesReference: it returns true where the digest's table is the one of its definition; only new memory is written.
-/
import Derived.Test.YtpihhjpgdbcifaaDoorRef10
import Derived.Test.YtpihhjpgdbcifaaDoorRs4
namespace Go.Proofs.YtpihhjpgdbcifaaDoor
open Go.RowKit RG
namespace RW
theorem idR_form (K : Nat → Int) (f : Nat → Int) (s : ByteArray) : ∃ t n, idR K f s = .tuple #[.string t, .int .i64 n] := by
  cases h : validB f s.size
  · exact ⟨_, _, idR_no _ _ _ h⟩
  · exact ⟨_, _, idR_yes _ _ _ h⟩
end RW
attribute [local go_sem ↓] ldRow_fact stRow_fact
set_option maxRecDepth 100000 in
set_option maxHeartbeats 4000000 in
theorem rid_fact (f : Nat → Int) (s : ByteArray) (hs : s.size ≤ 9223372036854775807) (w : World) :
    Calls Tryd.prog 24 #[.agg (RW.fcells f s)] w fun e w' => e = .returned (RW.idR RW.k0F f s) ∧ Below w.heap.size w w' := by
  have hV := fun W => rencode_any f s hs W
  cases hv : RW.validB f s.size
  · rw [RW.idR_no _ _ _ hv]
    rw [RW.encR_no _ _ hv] at hV
    obtain ⟨cs, hcs⟩ : ∃ cs, cs = RW.fcells f s := ⟨_, rfl⟩
    rw [← hcs] at hV ⊢
    have hcsH := hide hcs
    have hVH := hide hV
    clear hcs hV hv
    go_enter Tryd.func24, Tryd.ntmps24
    go_upto_region 1 with fail
    obtain ⟨b1, hb1⟩ : ∃ b, b = w.heap.size := ⟨_, rfl⟩
    have hR := FRows.new (FRows.nil (Below.refl w.heap.size w)) f s
    rw [← hcsH.out, ← hb1] at hR
    rw [← hb1] at ⊢
    refine gen_world (FRows [(b1, f, s)] w) hR ?_
    clear hR hb1
    intro W hF
    have l1 := hF.load b1 f s (by simp)
    rw [← hcsH.out] at l1
    go_wp2_with fail
    refine (hVH.out _).mono ?_
    rintro e w2 ⟨rfl, hB2⟩
    go_wp2
    go_ret2
    exact ⟨rfl, (hF.next hB2).below⟩
  · rw [RW.idR_yes _ _ _ hv]
    rw [RW.encR_yes _ _ hv] at hV
    obtain ⟨hn, _⟩ := RW.valid_lims f s.size hv
    have hl := RW.encL_len f s.data.toList
    have h9 : s.data.toList.length = s.size := by rw [Array.length_toList]; rfl
    have hS := fun W => rsum_any (⟨(RW.encL f s.data.toList).toArray⟩ : ByteArray) (by show (RW.encL f s.data.toList).toArray.size ≤ _; simp only [List.size_toArray]; omega) W
    obtain ⟨T, hT⟩ : ∃ T : ByteArray, T = ⟨(RW.encL f s.data.toList).toArray⟩ := ⟨_, rfl⟩
    rw [show RW.encL f s.data.toList = T.data.toList by rw [hT]]
    rw [← hT] at hV hS
    obtain ⟨cs, hcs⟩ : ∃ cs, cs = RW.fcells f s := ⟨_, rfl⟩
    rw [← hcs] at hV ⊢
    have hcsH := hide hcs
    have hVH := hide hV
    have hSH := hide hS
    clear hcs hV hv hT hS hn hl h9
    go_enter Tryd.func24, Tryd.ntmps24
    go_upto_region 1 with fail
    obtain ⟨b1, hb1⟩ : ∃ b, b = w.heap.size := ⟨_, rfl⟩
    have hR := FRows.new (FRows.nil (Below.refl w.heap.size w)) f s
    rw [← hcsH.out, ← hb1] at hR
    rw [← hb1] at ⊢
    refine gen_world (FRows [(b1, f, s)] w) hR ?_
    clear hR hb1
    intro W hF
    have l1 := hF.load b1 f s (by simp)
    rw [← hcsH.out] at l1
    go_wp2_with fail
    refine (hVH.out _).mono ?_
    rintro e w2 ⟨rfl, hB2⟩
    have hF2 := hF.next hB2
    clear hF hB2 l1
    go_wp2_with fail
    refine (hSH.out _).mono ?_
    rintro e w3 ⟨rfl, hB3⟩
    go_wp2
    go_ret2
    exact ⟨rfl, (hF2.next hB3).below⟩
set_option maxRecDepth 100000 in
set_option maxHeartbeats 4000000 in
theorem encm_any (f : Nat → Int) (s : ByteArray) (hs : s.size ≤ 9223372036854775807) (K : Nat → Int) (ks : Array Value) (hks : RW.WsOk ks K) (hK0 : K = RW.k0F) (a : Addr) (w : World) (hK : KLaid w ks) (hg : w.cell? ⟨0, 0, none⟩ = some (RW.eW a)) :
    Calls Tryd.prog 4 #[.agg (RW.fcells f s)] w fun e w' => e = .returned (.bool true) ∧ Below w.heap.size w w' := by
  obtain ⟨cs, hcs⟩ : ∃ cs, cs = RW.fcells f s := ⟨_, rfl⟩
  have hCf := fun W => cut_any f s hs W
  obtain ⟨c, hc⟩ : ∃ c, c = RW.cutT s := ⟨_, rfl⟩
  have hcz : c.size ≤ 9223372036854775807 := by rw [hc]; have := RW.cutT_size s; omega
  obtain ⟨cc, hcc⟩ : ∃ ds, ds = RW.fcells f c := ⟨_, rfl⟩
  have h1 := fun W => encode_any f c W
  have h2 := fun W => rencode_any f c hcz W
  have h3 := fun W hW => id_fact f c K ks hks W hW
  have h4 := fun W => rid_fact f c hcz W
  rw [← hK0] at h4
  obtain ⟨t, n, hid⟩ := RW.idR_form K f c
  simp only [hid] at h3 h4
  simp only [RW.encR_eq] at h1 h2
  generalize RW.encS f c = x at h1 h2
  generalize RW.encE f c = m at h1 h2
  simp only [← hc, ← hcs, ← hcc] at hCf
  simp only [← hcc] at h1 h2 h3 h4
  rw [← hcs]
  have hi1 : (Tryd.prog.info? 23).map (·.size) = some cc.size := by rw [hcc]; exact fact_info f c
  have hcsH := hide hcs; have hCfH := hide hCf; have hccH := hide hcc
  have h1H := hide h1; have h2H := hide h2; have h3H := hide h3; have h4H := hide h4
  have hKH := hide hK; have hgH := hide hg
  clear hcs hCf hc hcc hK hg h1 h2 h3 h4 hcz hid hK0
  go_enter Tryd.func4, Tryd.ntmps4
  go_upto_region 1 with fail
  obtain ⟨b1, hb1⟩ : ∃ b, b = w.heap.size := ⟨_, rfl⟩
  have hR := FRows.new (FRows.nil (Below.refl w.heap.size w)) f s
  rw [← hcsH.out, ← hb1] at hR
  rw [← hb1] at ⊢
  have hle1H := hide (show w.heap.size ≤ b1 by omega)
  refine gen_world (FRows [(b1, f, s)] w) hR ?_
  intro W hF
  clear hR hb1
  go_wp2_with fail
  refine (sane_any K ks hks a _ (RW.klaid hKH.out hF.below) (err_kept hgH.out hF.below)).mono ?_
  rintro e w1 ⟨rfl, hB1⟩
  have hF1 := hF.next hB1
  clear hF hB1
  have l1 := hF1.load b1 f s (by simp)
  rw [← hcsH.out] at l1
  go_wp2_with fail
  refine (hCfH.out _).mono ?_
  rintro e w2 ⟨rfl, hB2⟩
  have hF2 := hF1.next hB2
  clear hF1 hB2 l1
  have s2 := hF2.store b1 f f s c (by simp)
  rw [← hccH.out] at s2
  have hF3 := hF2.put b1 f f s c (by simp) hle1H.out [(b1, f, c)] (by simp)
  rw [← hccH.out] at hF3
  clear hF2
  have hF3H := hide hF3
  clear hF3
  go_upto_region 3 with fail
  refine gen_world (FRows [(b1, f, c)] w) hF3H.out ?_
  clear s2 hF3H
  intro w3 hF3
  have l1 := hF3.load b1 f c (by simp)
  rw [← hccH.out] at l1
  go_upto_region 4 with (go_at_call 21; refine (h1H.out _).mono ?_; rintro e w4 ⟨rfl, hB4⟩)
  have hF4 := hF3.next hB4
  clear hF3 hB4 l1
  have l1 := hF4.load b1 f c (by simp)
  rw [← hccH.out] at l1
  go_upto_region 5 with (go_at_call 22; refine (h2H.out _).mono ?_; rintro e w5 ⟨rfl, hB5⟩)
  have hF5 := hF4.next hB5
  clear hF4 hB5 l1
  have l1 := hF5.load b1 f c (by simp)
  rw [← hccH.out] at l1
  have hKl := hide (RW.klaid hKH.out hF5.below)
  go_upto_region 6 with (go_at_call 23; refine (h3H.out _ hKl.out).mono ?_; rintro e w6 ⟨rfl, hB6⟩)
  have hF6 := hF5.next hB6
  clear hF5 hB6 l1
  have l1 := hF6.load b1 f c (by simp)
  rw [← hccH.out] at l1
  go_upto_region 7 with (go_at_call 24; refine (h4H.out _).mono ?_; rintro e w7 ⟨rfl, hB7⟩)
  have hF7 := hF6.next hB7
  clear hF6 hB7 l1
  go_wp2_with fail
  go_ret
  exact ⟨rfl, hF7.below⟩
end Go.Proofs.YtpihhjpgdbcifaaDoor

/-
  Package royaltylaw05: FactPrefixes: it returns true; only new memory is written.
-/
import Derived.Test.YtpihhjpgdbcifaaDoorLaw2
namespace Go.Proofs.YtpihhjpgdbcifaaDoor
open Go.RowKit
namespace RW
theorem emp_no (s : ByteArray) (h : s ≠ ⟨#[]⟩) : s.toList.isEmpty = false := by
  rw [ByteArray.toList_eq]
  cases s with
  | mk d => cases d with
    | mk l => cases l with
      | nil => exact absurd rfl h
      | cons a l => rfl
theorem emp_yes (s : ByteArray) (h : s = ⟨#[]⟩) : s.toList.isEmpty = true := by rw [h, ByteArray.toList_eq]; rfl
theorem encL_pos (f : Nat → Int) (s : List UInt8) (hs : s.length ≤ 65536) (hb : ∀ i, i < 17 → -4611686018427387903 ≤ f i ∧ f i ≤ 4611686018427387903) : encL f s ≠ [] := by
  intro h
  have h1 := decF_enc f s hb hs
  rw [h, decF_nil] at h1
  cases h1
theorem prefix_none (f : Nat → Int) (s : ByteArray) (hv : validB f s.size = true) (k : Nat) (hk : k < (encL f s.data.toList).length) :
    decF ((⟨(encL f s.data.toList).toArray⟩ : ByteArray).extract 0 k).data.toList = none := by
  obtain ⟨h1, _, _, h2⟩ := valid_lims f s.size hv
  have hl : s.data.toList.length = s.size := by rw [Array.length_toList]; rfl
  have he := decF_enc f s.data.toList h2 (by omega)
  have e : ((⟨(encL f s.data.toList).toArray⟩ : ByteArray).extract 0 k).data.toList = (encL f s.data.toList).take k := by simp
  rw [e]
  rcases hd : decF ((encL f s.data.toList).take k) with _ | p
  · rfl
  · have := decF_append _ ((encL f s.data.toList).drop k) p hd (by simp; omega)
    rw [List.take_append_drop, he] at this
    cases this
theorem more_none (f : Nat → Int) (s m : ByteArray) (hv : validB f s.size = true) (hm : m ≠ ⟨#[]⟩) : decF ((⟨(encL f s.data.toList).toArray⟩ : ByteArray) ++ m).data.toList = none := by
  obtain ⟨h1, _, _, h2⟩ := valid_lims f s.size hv
  have hl : s.data.toList.length = s.size := by rw [Array.length_toList]; rfl
  have he := decF_enc f s.data.toList h2 (by omega)
  have e : ((⟨(encL f s.data.toList).toArray⟩ : ByteArray) ++ m).data.toList = encL f s.data.toList ++ m.data.toList := by simp [ByteArray.data_append]
  rw [e]
  refine decF_append _ _ _ he (fun h => hm ?_)
  cases m with
  | mk d => cases d with
    | mk l => simp at h; subst h; rfl
theorem more_some (f : Nat → Int) (s : ByteArray) (hv : validB f s.size = true) : decV (decF ((⟨(encL f s.data.toList).toArray⟩ : ByteArray) ++ ⟨#[]⟩).data.toList) = .tuple #[.agg (fcells (low f 17) s), .int .i64 0] := by
  obtain ⟨h1, _, _, h2⟩ := valid_lims f s.size hv
  have hl : s.data.toList.length = s.size := by rw [Array.length_toList]; rfl
  have he := decF_enc f s.data.toList h2 (by omega)
  have e : ((⟨(encL f s.data.toList).toArray⟩ : ByteArray) ++ ⟨#[]⟩).data.toList = encL f s.data.toList := by simp [ByteArray.data_append]
  rw [e, he, decV_yes]
  rw [validB_low, hl]; exact hv
end RW
attribute [local go_sem ↓] ldRow_fact
set_option maxRecDepth 100000 in
set_option maxHeartbeats 2000000 in
theorem prefixes_any (f : Nat → Int) (s more : ByteArray) (n : Int) (hs : s.size ≤ 9223372036854775807) (hm : more.size ≤ 9223372036854775807) (hn : -9223372036854775808 ≤ n) (hn2 : n ≤ 9223372036854775807) (K : Nat → Int) (ks : Array Value) (hks : RW.WsOk ks K) (a : Addr) (w : World) (hK : KLaid w ks) (hg : w.cell? ⟨0, 0, none⟩ = some (RW.eW a)) :
    Calls Tryd.prog 8 #[.agg (RW.fcells f s), .int .i64 n, .string more] w fun e w' => e = .returned (.bool true) ∧ Below w.heap.size w w' := by
  obtain ⟨m, hmm⟩ : ∃ m, m = min more.size 20 := ⟨_, rfl⟩
  have hmin : min ((more.size : Nat) : Int) 20 = (m : Int) := by omega
  have hb1 : (0 : Int) ≤ (m : Int) := by omega
  have hb2 : (m : Int) ≤ (more.size : Int) := by omega
  have hm2 : m ≤ 20 := by omega
  have hm2H := hide hm2
  obtain ⟨cs, hcs⟩ : ∃ cs, cs = RW.fcells f s := ⟨_, rfl⟩
  rw [← hcs]
  have hcsH := hide hcs
  clear hcs hmm hm2
  go_enter Tryd.func8, Tryd.ntmps8
  go_upto_region 1 with fail
  obtain ⟨b, hb⟩ : ∃ b, b = w.heap.size := ⟨_, rfl⟩
  have hR := FRows.new (FRows.nil (Below.refl w.heap.size w)) f s
  rw [← hcsH.out, ← hb] at hR
  rw [← hb]
  refine gen_world (fun W => FRows [(b, f, s)] w W ∧ KLaid W ks ∧ W.cell? ⟨0, 0, none⟩ = some (RW.eW a)) ⟨hR, RW.klaid hK hR.below, err_kept hg hR.below⟩ ?_
  rintro W ⟨hF, hKW, hgW⟩
  clear hR hK hg hb
  go_wp2_with fail
  refine (sane_any K ks hks a _ hKW hgW).mono ?_
  rintro e w1 ⟨rfl, hB1⟩
  have hF1 := hF.next hB1
  have hg1 := hide (err_kept hgW hB1)
  clear hF hB1 hKW hgW
  have l1 := hF1.load b f s (by simp)
  go_wp2_with fail
  refine (cut_any f s hs _).mono ?_
  rintro e w2 ⟨rfl, hB2⟩
  have hF2 := hF1.next hB2
  clear hF1 l1
  obtain ⟨c, hc⟩ : ∃ c, c = RW.cutT s := ⟨_, rfl⟩
  rw [← hc]
  have hg2 := hide (err_kept hg1.out hB2)
  clear hc hB2 hg1
  go_wp2_with fail
  refine (encode_any f c _).mono ?_
  rintro e w3 ⟨rfl, hB3⟩
  have hF3 := hF2.next hB3
  have hg3 := hide (err_kept hg2.out hB3)
  clear hF2 hB3 hg2
  cases hv : RW.validB f c.size
  · rw [RW.encR_no _ _ hv]
    clear hv
    go_wp2_with fail
    go_ret
    exact ⟨rfl, hF3.below⟩
  · rw [RW.encR_yes _ _ hv]
    obtain ⟨hc1, _, _, hc2⟩ := RW.valid_lims f c.size hv
    obtain ⟨E, hE⟩ : ∃ E : ByteArray, E = ⟨(RW.encL f c.data.toList).toArray⟩ := ⟨_, rfl⟩
    rw [← hE]
    have hEs : E.size = (RW.encL f c.data.toList).length := by rw [hE]; show Array.size _ = _; simp
    have hE1 : 1 ≤ E.size := by
      have := List.length_pos_iff.2 (RW.encL_pos f c.data.toList (by rw [Array.length_toList]; show c.size ≤ _; omega) hc2)
      omega
    have hE2 : E.size ≤ 2180 := by
      have := RW.encL_len f c.data.toList
      have h3 : c.data.toList.length = c.size := by rw [Array.length_toList]; rfl
      omega
    have hne := RW.emp_no E (fun h => by rw [h] at hE1; exact absurd hE1 (by decide))
    obtain ⟨k, hk⟩ := Int.eq_ofNat_of_zero_le (RW.pickI_bd n E.size (by omega)).1
    have hk2 := (RW.pickI_bd n E.size (by omega)).2
    rw [hk] at hk2
    have hkH := hide hk
    have hk3 : (0 : Int) ≤ (k : Int) := by omega
    have hk4 : (k : Int) ≤ (E.size : Int) := by omega
    have hD1 := RW.prefix_none f c hv k (by rw [← hEs]; omega)
    rw [← hE] at hD1
    have hD1H := hide hD1
    have hD2 : ∀ c2 : ByteArray, (c2 = ⟨#[]⟩ ∧ RW.decV (RW.decF (E ++ c2).data.toList) = .tuple #[.agg (RW.fcells (RW.low f 17) c), .int .i64 0]) ∨ (c2 ≠ ⟨#[]⟩ ∧ RW.decV (RW.decF (E ++ c2).data.toList) = .tuple #[.agg (RW.fcells RW.zeroF ⟨#[]⟩), .int .i64 10]) := by
      intro c2
      by_cases h0 : c2 = ⟨#[]⟩
      · left; refine ⟨h0, ?_⟩; rw [h0, hE]; exact RW.more_some f c hv
      · right; refine ⟨h0, ?_⟩; rw [hE, RW.more_none f c c2 hv h0]; rfl
    have hE2H := hide hE2
    have hmx := hide (And.intro hn hn2)
    have hE1H := hide hE1
    clear hE hEs hv hk hk2 hc1 hc2 hD1 hE2 hn hn2 hE1
    go_wp2_with fail
    refine (pick_any n E.size hmx.out.1 hmx.out.2 (by have := hE1H.out; omega) (by have := hE2H.out; omega) _).mono ?_
    rintro e w4 ⟨rfl, rfl⟩
    rw [hkH.out]
    go_wp2_with fail
    refine (decode_any (E.extract 0 k) (by have := hE2H.out; simp; omega) a _ hg3.out).mono ?_
    rintro e w4 ⟨rfl, hB4⟩
    rw [hD1H.out, show RW.decV none = .tuple #[.agg (RW.fcells RW.zeroF ⟨#[]⟩), .int .i64 10] from rfl]
    have hF4 := hF3.next hB4
    have hg4 := hide (err_kept hg3.out hB4)
    clear hF3 hB4 hg3 hk3 hk4
    have hi0 := fact_info RW.zeroF ⟨#[]⟩
    go_upto_region 7 with (refine wpList_store_new rfl 23 (.tmp 10) (.tmp 45) rfl (RW.fcells RW.zeroF ⟨#[]⟩) rfl rfl 23 _ hi0 rfl (fcells_one _ _) ?_)
    have hF5 := hF4.new RW.zeroF ⟨#[]⟩
    have hg5 : (w4.alloc (.cells (RW.fcells RW.zeroF ⟨#[]⟩) 23)).cell? ⟨0, 0, none⟩ = some (RW.eW a) := err_kept hg4.out ((Below.refl _ _).alloc (Nat.le_refl _) _)
    obtain ⟨b5, hb5⟩ : ∃ b, b = w4.heap.size := ⟨_, rfl⟩
    rw [← hb5] at hF5 ⊢
    refine gen_world (fun W => Below w.heap.size w W ∧ W.cell? ⟨0, 0, none⟩ = some (RW.eW a)) ⟨hF5.below, hg5⟩ ?_
    clear hF4 hF5 hg4 hg5 hb5
    rintro w5 ⟨hB5, hg5⟩
    have hg5H := hide hg5
    clear hg5
    obtain ⟨c2, hc2⟩ : ∃ c2, c2 = more.extract 0 m := ⟨_, rfl⟩
    have hc2s : c2.size ≤ 20 := by have := hm2H.out; rw [hc2]; simp; omega
    rw [← hc2]
    have hDD := hD2 c2
    have hsz : E.size + c2.size ≤ 9223372036854775807 := by have := hE2H.out; omega
    have hsz2 : ¬ (9223372036854775807 < E.size + c2.size) := by omega
    have hcs2 := hide hc2s
    clear hc2 hD2 hb1 hb2 hmin hm2H hc2s
    rcases hDD with ⟨h0, hD⟩ | ⟨h0, hD⟩
    · have he2 := RW.emp_yes c2 h0
      have hDH := hide hD
      have hi1 := fact_info (RW.low f 17) c
      clear h0 hD
      go_wp2_with fail
      refine (decode_any (E ++ c2) (by have := hE2H.out; have := hcs2.out; rw [ByteArray.size_append]; omega) a _ hg5H.out).mono ?_
      rintro e w6 ⟨rfl, hB6⟩
      rw [hDH.out]
      have hB7 := hB5.trans (hB6.mono hB5.size)
      clear hB5 hB6
      go_upto_region 8 with (refine wpList_store_new rfl 23 (.tmp 12) (.tmp 52) rfl (RW.fcells (RW.low f 17) c) rfl rfl 23 _ hi1 rfl (fcells_one _ _) ?_)
      refine gen_world (fun W => Below w.heap.size w W) (hB7.alloc hB7.size _) ?_
      clear hB7
      intro w7 hB7
      go_wp2_with fail
      go_ret
      exact ⟨rfl, hB7⟩
    · have he2 := RW.emp_no c2 h0
      have hDH := hide hD
      clear h0 hD
      go_wp2_with fail
      refine (decode_any (E ++ c2) (by have := hE2H.out; have := hcs2.out; rw [ByteArray.size_append]; omega) a _ hg5H.out).mono ?_
      rintro e w6 ⟨rfl, hB6⟩
      rw [hDH.out]
      have hB7 := hB5.trans (hB6.mono hB5.size)
      clear hB5 hB6
      go_upto_region 8 with (refine wpList_store_new rfl 23 (.tmp 12) (.tmp 52) rfl (RW.fcells RW.zeroF ⟨#[]⟩) rfl rfl 23 _ hi0 rfl (fcells_one _ _) ?_)
      refine gen_world (fun W => Below w.heap.size w W) (hB7.alloc hB7.size _) ?_
      clear hB7
      intro w7 hB7
      go_wp2_with fail
      go_ret
      exact ⟨rfl, hB7⟩
end Go.Proofs.YtpihhjpgdbcifaaDoor

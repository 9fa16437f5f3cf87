/-
  Package royaltylaw05: FactDecodedAgain: it returns true; only new memory is written.
-/
import Derived.Test.YtpihhjpgdbcifaaDoorLaw2
namespace Go.Proofs.YtpihhjpgdbcifaaDoor
open Go.RowKit
theorem eql_zero (W : World) (X : Array Value) (hX : X = RW.fcells RW.zeroF ⟨#[]⟩) : (binOp .eql 23 (.agg (RW.fcells RW.zeroF ⟨#[]⟩)) (.agg X)).run Tryd.prog W = .ok (.bool true) W := by
  rw [hX, eql_fact, RW.dec_true ⟨fun _ _ => rfl, rfl⟩]
attribute [local go_sem ↓] ldRow_fact
set_option maxRecDepth 100000 in
set_option maxHeartbeats 2000000 in
theorem again_any (s : ByteArray) (hs : s.size ≤ 9223372036854775807) (K : Nat → Int) (ks : Array Value) (hks : RW.WsOk ks K) (a : Addr) (w : World) (hK : KLaid w ks) (hg : w.cell? ⟨0, 0, none⟩ = some (RW.eW a)) :
    Calls Tryd.prog 7 #[.string s] w fun e w' => e = .returned (.bool true) ∧ Below w.heap.size w w' := by
  obtain ⟨m, hm⟩ : ∃ m, m = min s.size 2200 := ⟨_, rfl⟩
  have hmin : min ((s.size : Nat) : Int) 2200 = (m : Int) := by omega
  have hb1 : (0 : Int) ≤ (m : Int) := by omega
  have hb2 : (m : Int) ≤ (s.size : Int) := by omega
  have hm2 : m ≤ 2200 := by omega
  have hm2H := hide hm2
  clear hm hm2
  go_enter Tryd.func7, Tryd.ntmps7
  go_wp2_with fail
  refine (sane_any K ks hks a _ hK hg).mono ?_
  rintro e w1 ⟨rfl, hB1⟩
  have hF := FRows.nil hB1
  have hgH := hide hg
  clear hB1 hg
  go_upto_region 3 with fail
  obtain ⟨t, ht⟩ : ∃ t, t = s.extract 0 m := ⟨_, rfl⟩
  have hts : t.size ≤ 2200 := by have := hm2H.out; rw [ht]; simp; omega
  rw [← ht]
  clear ht hmin hb1 hb2 hm2H hs
  go_wp2_with fail
  refine (decode_any t (by omega) a _ (err_kept hgH.out hF.below)).mono ?_
  rintro e w2 ⟨rfl, hB2⟩
  have hF2 := hF.next hB2
  clear hF hB2
  have hi0 := fact_info RW.zeroF ⟨#[]⟩
  rcases hd : RW.decF t.data.toList with _ | ⟨f, u⟩
  · rw [show RW.decV none = .tuple #[.agg (RW.fcells RW.zeroF ⟨#[]⟩), .int .i64 10] from rfl]
    clear hd
    go_upto_region 4 with (refine wpList_store_new rfl 23 (.tmp 4) (.tmp 17) rfl (RW.fcells RW.zeroF ⟨#[]⟩) rfl rfl 23 _ hi0 rfl (fcells_one _ _) ?_)
    have hF3 := hF2.new RW.zeroF ⟨#[]⟩
    obtain ⟨b, hb⟩ : ∃ b, b = w2.heap.size := ⟨_, rfl⟩
    rw [← hb] at hF3 ⊢
    refine gen_world (FRows [(b, RW.zeroF, ⟨#[]⟩)] w) hF3 ?_
    clear hF2 hF3 hb
    intro w3 hF3
    have l1 := hF3.load b RW.zeroF ⟨#[]⟩ (by simp)
    have hE := fun W => eql_zero W _ fzero.symm
    go_wp2_with fail
    go_ret
    exact ⟨rfl, hF3.below⟩
  · cases hv : RW.validB f u.length
    · rw [RW.decV_no f u hv]
      clear hd
      go_upto_region 4 with (refine wpList_store_new rfl 23 (.tmp 4) (.tmp 17) rfl (RW.fcells RW.zeroF ⟨#[]⟩) rfl rfl 23 _ hi0 rfl (fcells_one _ _) ?_)
      have hF3 := hF2.new RW.zeroF ⟨#[]⟩
      obtain ⟨b, hb⟩ : ∃ b, b = w2.heap.size := ⟨_, rfl⟩
      rw [← hb] at hF3 ⊢
      refine gen_world (FRows [(b, RW.zeroF, ⟨#[]⟩)] w) hF3 ?_
      clear hF2 hF3 hb
      intro w3 hF3
      have l1 := hF3.load b RW.zeroF ⟨#[]⟩ (by simp)
      have hE := fun W => eql_zero W _ fzero.symm
      go_wp2_with fail
      go_ret
      exact ⟨rfl, hF3.below⟩
    · have hT : (⟨(RW.encL f (⟨u.toArray⟩ : ByteArray).data.toList).toArray⟩ : ByteArray) = t := by
        have := (RW.decF_take _ _ _ hd).1
        show (⟨(RW.encL f u).toArray⟩ : ByteArray) = t
        rw [← this]
      rw [RW.decV_yes f u hv]
      clear hd
      have hvH := hide hv
      have hTH := hide hT
      clear hv hT
      obtain ⟨v, hvu⟩ : ∃ v : ByteArray, v = ⟨u.toArray⟩ := ⟨_, rfl⟩
      have hvs : RW.validB f v.size = true := by rw [hvu]; exact hvH.out
      have hTv := hTH.out
      rw [← hvu] at hTv ⊢
      have hvsH := hide hvs
      have hTvH := hide hTv
      clear hvH hTH hvs hTv hvu
      have hi1 := fact_info f v
      go_upto_region 4 with (refine wpList_store_new rfl 23 (.tmp 4) (.tmp 17) rfl (RW.fcells f v) rfl rfl 23 _ hi1 rfl (fcells_one _ _) ?_)
      have hF3 := hF2.new f v
      obtain ⟨b, hb⟩ : ∃ b, b = w2.heap.size := ⟨_, rfl⟩
      rw [← hb] at hF3 ⊢
      refine gen_world (FRows [(b, f, v)] w) hF3 ?_
      clear hF2 hF3 hb
      intro w3 hF3
      have l1 := hF3.load b f v (by simp)
      go_wp2_with fail
      refine (encode_any f v _).mono ?_
      rintro e w4 ⟨rfl, hB4⟩
      have hF4 := hF3.next hB4
      clear hF3 hB4 l1
      rw [RW.encR_yes _ _ hvsH.out, hTvH.out]
      have l1 := hF4.load b f v (by simp)
      go_wp2_with fail
      refine (valid_any f v _).mono ?_
      rintro e w5 ⟨rfl, hB5⟩
      have hF5 := hF4.next hB5
      clear hF4 hB5 l1
      rw [hvsH.out]
      go_wp2_with fail
      go_ret
      exact ⟨rfl, hF5.below⟩
end Go.Proofs.YtpihhjpgdbcifaaDoor

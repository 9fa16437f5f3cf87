/-
  royaltylaw05.FactDecodeMatchesReference: it returns true; only new memory is written.
-/
import Derived.Test.YtpihhjpgdbcifaaDoorRef11
namespace Go.Proofs.YtpihhjpgdbcifaaDoor
open Go.RowKit RG
namespace RW
theorem decV_form (x : Option ((Nat → Int) × List UInt8)) : ∃ F u n, decV x = .tuple #[.agg (fcells F u), .int .i64 n] := by
  rcases x with _ | ⟨f, t⟩
  · exact ⟨_, _, _, rfl⟩
  · cases h : validB f t.length
    · exact ⟨_, _, _, decV_no f t h⟩
    · exact ⟨_, _, _, decV_yes f t h⟩
end RW
attribute [local go_sem ↓] ldRow_fact stRow_fact
set_option maxRecDepth 100000 in
set_option maxHeartbeats 4000000 in
theorem decm_any (s : ByteArray) (hs : s.size ≤ 9223372036854775807) (K : Nat → Int) (ks : Array Value) (hks : RW.WsOk ks K) (a : Addr) (w : World) (hK : KLaid w ks) (hg : w.cell? ⟨0, 0, none⟩ = some (RW.eW a)) :
    Calls Tryd.prog 5 #[.string s] w fun e w' => e = .returned (.bool true) ∧ Below w.heap.size w w' := by
  obtain ⟨m, hm⟩ : ∃ m, m = min s.size 2200 := ⟨_, rfl⟩
  have hmin : min ((s.size : Nat) : Int) 2200 = (m : Int) := by omega
  have hb1 : (0 : Int) ≤ (m : Int) := by omega
  have hb2 : (m : Int) ≤ (s.size : Int) := by omega
  have hm2 : m ≤ 2200 := by omega
  have hm2H := hide hm2
  clear hm hm2
  go_enter Tryd.func5, Tryd.ntmps5
  go_wp2_with fail
  refine (sane_any K ks hks a _ hK hg).mono ?_
  rintro e w1 ⟨rfl, hB1⟩
  have hF := FRows.nil hB1
  have hgH := hide hg
  clear hB1 hg
  go_upto_region 3 with fail
  obtain ⟨t, ht⟩ : ∃ t, t = s.extract 0 m := ⟨_, rfl⟩
  have hts : t.size ≤ 2200 := by have := hm2H.out; rw [ht]; simp; omega
  rw [← ht]
  clear ht hmin hb1 hb2 hm2H hs
  have h1 := fun W hW => decode_any t (by omega) a W hW
  have h2 := fun W => rdecode_any t (by omega) W
  obtain ⟨F, u, n, hd⟩ := RW.decV_form (RW.decF t.data.toList)
  simp only [hd] at h1 h2
  have hi1 := fact_info F u
  have hE := fun W => eql_feq F F u u W
  rw [RW.dec_true ⟨fun _ _ => rfl, rfl⟩] at hE
  have hone := fcells_one F u
  have hsz := fcells_size F u
  obtain ⟨cs, hcs⟩ : ∃ cs, cs = RW.fcells F u := ⟨_, rfl⟩
  simp only [← hcs] at h1 h2 hi1 hE hone hsz
  have h1H := hide h1; have h2H := hide h2; have hcsH := hide hcs; have hEH := hide hE; have honeH := hide hone; have hszH := hide hsz; have hiH := hide hi1
  clear h1 h2 hd hcs hE hone hsz hts hi1
  have hgl := hide (err_kept hgH.out hF.below)
  go_upto_region 4 with (first | (go_at_call 25; refine (h1H.out _ hgl.out).mono ?_; rintro e w2 ⟨rfl, hB2⟩) | (refine wpList_store_new rfl 23 (.tmp 4) (.tmp 17) rfl cs rfl rfl 23 _ hiH.out (by rw [hszH.out]; rfl) honeH.out ?_))
  have hF3 := (hF.next hB2).new F u
  rw [← hcsH.out] at hF3
  obtain ⟨b, hb⟩ : ∃ b, b = w2.heap.size := ⟨_, rfl⟩
  rw [← hb] at hF3 ⊢
  refine gen_world (FRows [(b, F, u)] w) hF3 ?_
  clear hF hF3 hb hB2
  intro w3 hF3
  go_upto_region 5 with (first | (go_at_call 26; refine (h2H.out _).mono ?_; rintro e w4 ⟨rfl, hB4⟩) | (refine wpList_store_new rfl 23 (.tmp 6) (.tmp 22) rfl cs rfl rfl 23 _ hiH.out (by rw [hszH.out]; rfl) honeH.out ?_))
  have hF5 := (hF3.next hB4).new F u
  rw [← hcsH.out] at hF5
  obtain ⟨b5, hb5⟩ : ∃ b, b = w4.heap.size := ⟨_, rfl⟩
  rw [← hb5] at hF5 ⊢
  refine gen_world (FRows [(b5, F, u), (b, F, u)] w) hF5 ?_
  clear hF3 hF5 hb5 hB4
  intro w5 hF5
  have l1 := hF5.load b F u (by simp)
  have l2 := hF5.load b5 F u (by simp)
  rw [← hcsH.out] at l1 l2
  have hE := hEH.out
  go_wp2_with fail
  go_ret
  exact ⟨rfl, hF5.below⟩
end Go.Proofs.YtpihhjpgdbcifaaDoor

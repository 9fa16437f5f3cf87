/-
  Package royaltylaw25: sane: it returns true; only new memory is written.
-/
import Derived.Test.YtcbckcojebanaaaDoorBoxP
import Derived.Test.YtcbckcojebanaaaDoorBox7
namespace Go.Proofs.YtcbckcojebanaaaDoor
open Go.RowKit RG
theorem SW.start {w W : World} {bx mb : Nat} {N : Int} (h : BoxAt W bx mb N []) (hB : Below w.heap.size w W) (hm : w.heap.size ≤ mb) : SW [] w bx mb N [] W := ⟨MRows.nil hB, h, by simp, by simp, hm⟩
attribute [local go_sem ↓] ldMsg_msg
set_option maxRecDepth 100000 in
set_option maxHeartbeats 8000000 in
theorem bsane_any (K : Nat → Int) (ks : Array Value) (hks : RW.WsOk ks K) (w : World) (hK : KLaid w ks) : Calls Tryd.prog 10 #[] w fun e w' => e = .returned (.bool true) ∧ Below w.heap.size w w' := by
  obtain ⟨D, hD⟩ : ∃ D : ByteArray, D = ⟨(RW.sha K [120]).toArray⟩ := ⟨_, rfl⟩
  obtain ⟨E, hE⟩ : ∃ D : ByteArray, D = ⟨(RW.sha K [121]).toArray⟩ := ⟨_, rfl⟩
  have hDl : D.data.toList.length = 32 := by rw [hD]; exact RW.bsha_len K _
  have hEl : E.data.toList.length = 32 := by rw [hE]; exact RW.bsha_len K _
  have hD0 : D ≠ ⟨#[]⟩ := fun h => by rw [h] at hDl; cases hDl
  have hSx : ∀ W, Below w.heap.size w W → Calls Tryd.prog 39 #[.string ⟨#[120]⟩] W fun e w' => e = .returned (.string D) ∧ Below W.heap.size W w' := fun W hB => by
    rw [hD]; exact bsum_any ⟨#[120]⟩ (by decide) K ks hks W (bklaid hK hB)
  have hSy : ∀ W, Below w.heap.size w W → Calls Tryd.prog 39 #[.string ⟨#[121]⟩] W fun e w' => e = .returned (.string E) ∧ Below W.heap.size W w' := fun W hB => by
    rw [hE]; exact bsum_any ⟨#[121]⟩ (by decide) K ks hks W (bklaid hK hB)
  obtain ⟨hv1, hm1⟩ := RW.voteOk_nV K D.data.toList (.inl hDl) 1 2 (.inl ⟨rfl, rfl⟩)
  obtain ⟨hv2, _⟩ := RW.voteOk_nV K E.data.toList (.inl hEl) 1 2 (.inl ⟨rfl, rfl⟩)
  obtain ⟨hv3, _⟩ := RW.voteOk_nV K [] (.inr rfl) 2 1 (.inr ⟨rfl, rfl⟩)
  have hadd : ∀ (n : Nat → Int) (d : ByteArray) (bx mb : Nat) (L : List (RW.Vk × ByteArray)) (W : World), Below w.heap.size w W → BoxAt W bx mb 4 L → RW.voteOk K 4 n d.data.toList [] = true →
      Calls Tryd.prog 31 #[.pointer (some ⟨bx, 0, none⟩), .agg (RW.mcells n d (.slice none 0 0))] W fun e w' => e = .returned (.bool (RW.addOk true (RW.vk n) L)) ∧ BoxAt w' bx mb 4 (RW.addL true (RW.vk n) d L) ∧ KeptBut mb W w' := fun n d bx mb L W hB hb hv => by
    have h := bxadd_any n d (.slice none 0 0) [] W K (StrsV.nil W) (Nat.zero_le _) (by simp) ks hks (bklaid hK hB) bx mb 4 L hb
    rw [show RW.bl [] = [] from rfl, hv] at h
    exact h
  have hi3 := msg_info (RW.nV 1 2) D (.slice none 0 0)
  have hi4 := msg_info (RW.nV 1 2) E (.slice none 0 0)
  have hi5 := msg_info (RW.nV 2 1) ⟨#[]⟩ (.slice none 0 0)
  have ho3 := msg_one (RW.nV 1 2) D (.slice none 0 0) rfl
  have ho5 := msg_one (RW.nV 2 1) ⟨#[]⟩ (.slice none 0 0) rfl
  have hSxH := hide hSx
  have hSyH := hide hSy
  have haddH := hide hadd
  have hv1H := hide hv1
  have hv2H := hide hv2
  have hv3H := hide hv3
  have hm1H := hide hm1
  have hDlH := hide hDl
  have hD0H := hide hD0
  have hKH := hide hK
  have hksH := hide hks
  clear hSx hSy hadd hv1 hv2 hv3 hm1 hDl hEl hD hE hD0 hK hks
  go_enter Tryd.func10, Tryd.ntmps10
  go_upto_region 2 with (go_at_call 28; refine (newbox_yes 4 (by decide) _).mono ?_; rintro e w1 ⟨rfl, hb1, hB1⟩)
  obtain ⟨bx, hbx⟩ : ∃ b, b = w.heap.size + 1 := ⟨_, rfl⟩
  obtain ⟨mb, hmb⟩ : ∃ b, b = w.heap.size := ⟨_, rfl⟩
  have hS := SW.start hb1 hB1 (Nat.le_refl _)
  rw [← hbx, ← hmb] at hS
  rw [← hbx]
  have hSH := hide hS
  clear hb1 hB1 hS hbx hmb
  go_upto_region 4 with (go_at_call 28; refine (newbox_no _ (by decide) _).mono ?_; rintro e w2 ⟨rfl, rfl⟩)
  go_upto_region 5 with (go_at_call 39; refine (hSxH.out _ hSH.out.rows.below).mono ?_; rintro e w3 ⟨rfl, hB3⟩)
  have hS3 := hSH.out.next hB3
  refine gen_world (SW [] w bx mb 4 []) hS3 ?_
  clear hS3 hB3 hSH
  intro W5 hS5
  obtain ⟨b3, hb3⟩ : ∃ b, b = W5.heap.size := ⟨_, rfl⟩
  have hS6 := hS5.new (RW.mcells (RW.nV 1 2) D (.slice none 0 0))
  rw [← hb3] at hS6
  have hS6H := hide hS6
  have hb3H := hide hb3
  clear hS5 hS6 hb3
  go_upto_region 6 with (refine wpList_store_new rfl 24 (.tmp 3) (.tmp 35) rfl (RW.mcells (RW.nV 1 2) D (.slice none 0 0)) rfl rfl 24 _ hi3 rfl ho3 ?_)
  rw [← hb3H.out]
  refine gen_world (SW [(b3, RW.mcells (RW.nV 1 2) D (.slice none 0 0))] w bx mb 4 []) hS6H.out ?_
  clear hS6H hb3H
  intro W6 hS6
  obtain ⟨b4, hb4⟩ : ∃ b, b = W6.heap.size := ⟨_, rfl⟩
  have hr3 := hS6.rows.rows (b3, RW.mcells (RW.nV 1 2) D (.slice none 0 0)) (by simp)
  have hS7 := hS6.new (RW.mcells (RW.nV 1 2) D (.slice none 0 0))
  rw [← hb4] at hS7
  have hlt4 : w.heap.size ≤ b4 := by rw [hb4]; exact hS6.rows.below.size
  have hne : b3 < b4 := by rw [hb4]; exact hS6.rows.lt (b3, RW.mcells (RW.nV 1 2) D (.slice none 0 0)) (by simp)
  have hS7H := hide hS7
  have hb4H := hide hb4
  clear hS6 hS7 hb4
  go_upto_region 7 with (first
    | (refine wpList_load_row rfl 24 (.tmp 3) rfl b3 rfl 24 (RW.mcells (RW.nV 1 2) D (.slice none 0 0)) (0, 0) _ hr3 Tryd.underlying24 rfl hi3 ?_)
    | (refine wpList_store_new rfl 24 (.tmp 4) (.tmp 36) rfl (RW.mcells (RW.nV 1 2) D (.slice none 0 0)) rfl rfl 24 _ hi3 rfl ho3 ?_))
  rw [← hb4H.out]
  refine gen_world (SW [(b4, RW.mcells (RW.nV 1 2) D (.slice none 0 0)), (b3, RW.mcells (RW.nV 1 2) D (.slice none 0 0))] w bx mb 4 []) hS7H.out ?_
  clear hS7H hb4H hr3
  intro W7 hS7
  have hS7H := hide hS7
  clear hS7
  go_upto_region 8 with (go_at_call 39; refine (hSyH.out _ hS7H.out.rows.below).mono ?_; rintro e w3 ⟨rfl, hB3⟩; have hS8 := hide (hS7H.out.next hB3); clear hB3; have c6 : w3.cell? ⟨b4, 6, none⟩ = some (.string D) := (hS8.out.rows.cell b4 (RW.mcells (RW.nV 1 2) D (.slice none 0 0)) (by simp) 6).trans rfl; have f6 : w3.frozen? ⟨b4, 6, none⟩ = false := by simp [World.frozen?, hS8.out.rows.rows (b4, RW.mcells (RW.nV 1 2) D (.slice none 0 0)) (by simp)])
  have hS9 := hS8.out.dig b4 (RW.nV 1 2) D E (.slice none 0 0) (by simp) hlt4 [(b4, RW.mcells (RW.nV 1 2) E (.slice none 0 0)), (b3, RW.mcells (RW.nV 1 2) D (.slice none 0 0))] (by
    intro x hx
    rcases List.mem_cons.1 hx with rfl | hx
    · exact .inl rfl
    · rw [List.mem_singleton] at hx
      subst hx
      exact .inr ⟨by simp, by show b3 ≠ b4; omega⟩)
  refine gen_world (SW [(b4, RW.mcells (RW.nV 1 2) E (.slice none 0 0)), (b3, RW.mcells (RW.nV 1 2) D (.slice none 0 0))] w bx mb 4 []) hS9 ?_
  clear hS9 hS8 hS7H c6 f6 hlt4 hne
  intro W8 hS8
  obtain ⟨b5, hb5⟩ : ∃ b, b = W8.heap.size := ⟨_, rfl⟩
  have hS9 := hS8.new (RW.mcells (RW.nV 2 1) ⟨#[]⟩ (.slice none 0 0))
  rw [← hb5] at hS9
  have hS9H := hide hS9
  have hb5H := hide hb5
  clear hS8 hS9 hb5
  go_upto_region 9 with (refine wpList_store_new rfl 24 (.tmp 5) (.tmp 39) rfl (RW.mcells (RW.nV 2 1) ⟨#[]⟩ (.slice none 0 0)) rfl rfl 24 _ hi5 rfl ho5 ?_)
  rw [← hb5H.out]
  obtain ⟨R, hR⟩ : ∃ R, R = [(b5, RW.mcells (RW.nV 2 1) ⟨#[]⟩ (.slice none 0 0)), (b4, RW.mcells (RW.nV 1 2) E (.slice none 0 0)), (b3, RW.mcells (RW.nV 1 2) D (.slice none 0 0))] := ⟨_, rfl⟩
  have hx3 : (b3, RW.mcells (RW.nV 1 2) D (.slice none 0 0)) ∈ R := by rw [hR]; simp
  have hx4 : (b4, RW.mcells (RW.nV 1 2) E (.slice none 0 0)) ∈ R := by rw [hR]; simp
  have hx5 : (b5, RW.mcells (RW.nV 2 1) ⟨#[]⟩ (.slice none 0 0)) ∈ R := by rw [hR]; simp
  have hS9 := hS9H.out
  rw [← hR] at hS9
  refine gen_world (SW R w bx mb 4 []) hS9 ?_
  have hx3H := hide hx3
  have hx4H := hide hx4
  have hx5H := hide hx5
  clear hS9 hS9H hb5H hR hx3 hx4 hx5
  intro W9 hS
  have hr := hS.rows.rows _ hx3H.out
  have hc := haddH.out (RW.nV 1 2) D bx mb [] W9 hS.rows.below hS.box hv1H.out
  rw [(RW.add_L0 D).1, (RW.add_L0 D).2] at hc
  have hcH := hide hc
  have hSH := hide hS
  clear hc hS
  go_upto_region 10 with (first
    | (refine wpList_load_row rfl 24 (.tmp 3) rfl b3 rfl 24 (RW.mcells (RW.nV 1 2) D (.slice none 0 0)) (0, 0) _ hr Tryd.underlying24 rfl hi3 ?_)
    | (go_at_call 31; refine hcH.out.mono ?_; rintro e w2 ⟨rfl, hb2, hk2⟩; have hS2 := hide (hSH.out.add hb2 hk2); clear hb2 hk2))
  refine gen_world (SW R w bx mb 4 [((1, 4, 5, 0), D)]) hS2.out ?_
  clear hS2 hSH hcH hr
  intro W10 hS
  have hr := hS.rows.rows _ hx4H.out
  have hc := haddH.out (RW.nV 1 2) E bx mb [((1, 4, 5, 0), D)] W10 hS.rows.below hS.box hv2H.out
  rw [(RW.add_L1 D E).1, (RW.add_L1 D E).2] at hc
  have hcH := hide hc
  have hSH := hide hS
  clear hc hS
  go_upto_region 11 with (first
    | (refine wpList_load_row rfl 24 (.tmp 4) rfl b4 rfl 24 (RW.mcells (RW.nV 1 2) E (.slice none 0 0)) (0, 0) _ hr Tryd.underlying24 rfl hi4 ?_)
    | (go_at_call 31; refine hcH.out.mono ?_; rintro e w2 ⟨rfl, hb2, hk2⟩; have hS2 := hide (hSH.out.add hb2 hk2); clear hb2 hk2))
  refine gen_world (SW R w bx mb 4 [((1, 4, 5, 0), D)]) hS2.out ?_
  clear hS2 hSH hcH hr
  intro W11 hS
  have hr := hS.rows.rows _ hx5H.out
  have hc := haddH.out (RW.nV 2 1) ⟨#[]⟩ bx mb [((1, 4, 5, 0), D)] W11 hS.rows.below hS.box hv3H.out
  rw [(RW.add_L1' D).1, (RW.add_L1' D).2] at hc
  have hcH := hide hc
  have hSH := hide hS
  clear hc hS
  go_upto_region 12 with (first
    | (refine wpList_load_row rfl 24 (.tmp 5) rfl b5 rfl 24 (RW.mcells (RW.nV 2 1) ⟨#[]⟩ (.slice none 0 0)) (0, 0) _ hr Tryd.underlying24 rfl hi5 ?_)
    | (go_at_call 31; refine hcH.out.mono ?_; rintro e w2 ⟨rfl, hb2, hk2⟩; have hS2 := hide (hSH.out.add hb2 hk2); clear hb2 hk2))
  refine gen_world (SW R w bx mb 4 (RW.L2 D)) hS2.out ?_
  clear hS2 hSH hcH hr
  intro W12 hS
  have hc : Calls Tryd.prog 33 #[.pointer (some ⟨bx, 0, none⟩), .int .i64 4, .int .i64 5, .int .i64 0] W12 fun e w' => e = .returned (.tuple #[.string ⟨#[]⟩, .int .i64 1]) ∧ Below W12.heap.size W12 w' := by
    refine (most_of (.pointer (some ⟨bx, 0, none⟩)) (RW.L2 D) 4 W12 4 5 0 (counts_any bx mb 4 (RW.L2 D) W12 hS.box (by decide) 4 5 0)).mono ?_
    rintro e w' ⟨⟨best, most, rfl, hsp⟩, hB⟩
    obtain ⟨rfl, rfl⟩ := RW.most_L2 D hD0H.out best most hsp
    exact ⟨rfl, hB⟩
  have hcH := hide hc
  have hSH := hide hS
  clear hc hS
  go_upto_region 13 with (go_at_call 33; refine hcH.out.mono ?_; rintro e w2 ⟨rfl, hB2⟩; have hS2 := hide (hSH.out.next hB2); clear hB2)
  refine gen_world (SW R w bx mb 4 (RW.L2 D)) hS2.out ?_
  clear hS2 hSH hcH
  intro W13 hS
  obtain ⟨T, hT⟩ : ∃ T : ByteArray, T = ⟨(RW.encM (RW.nV 1 2) D.data.toList (RW.bl [])).toArray⟩ := ⟨_, rfl⟩
  have hc := encode_any (RW.nV 1 2) D (.slice none 0 0) [] W13 K (StrsV.nil W13) (Nat.zero_le _) (by simp) ks hksH.out (bklaid hKH.out hS.rows.below)
  rw [encRes, if_pos (show RW.msgB K (RW.nV 1 2) D.data.toList (RW.bl []) = true from hm1H.out), ← hT] at hc
  have hr := hS.rows.rows _ hx3H.out
  have hcH := hide hc
  have hSH := hide hS
  have hTH := hide hT
  clear hc hS hT
  go_upto_region 14 with (first
    | (refine wpList_load_row rfl 24 (.tmp 3) rfl b3 rfl 24 (RW.mcells (RW.nV 1 2) D (.slice none 0 0)) (0, 0) _ hr Tryd.underlying24 rfl hi3 ?_)
    | (go_at_call 12; refine hcH.out.mono ?_; rintro e w2 ⟨rfl, hB2⟩; have hS2 := hide (hSH.out.next hB2); clear hB2))
  refine gen_world (SW R w bx mb 4 (RW.L2 D)) hS2.out ?_
  clear hS2 hSH hcH hr
  intro W14 hS
  have hDsz : D.size = 32 := by rw [← hDlH.out, Array.length_toList]; rfl
  have hTsz : T.size ≤ 1099511627776 := by
    rw [hTH.out, RW.size_arr, RW.encM, List.length_append, List.length_append, List.length_append]
    have h1 := RW.encN_len (RW.nV 1 2) 6
    have h2 := RW.putS_len D
    have h3 := RW.putI_len ((RW.bl ([] : List ByteArray)).length)
    have h4 : ((RW.bl ([] : List ByteArray)).flatMap RW.putS).length = 0 := rfl
    omega
  have hc : Calls Tryd.prog 23 #[.string T] W14 fun e w' => (∃ v, e = .returned (.tuple #[.agg (RW.mcells (RW.nV 1 2) D v), .int .i64 0]) ∧ StrsV w' v []) ∧ Below W14.heap.size W14 w' := by
    refine (decode_any T (Nat.le_trans hTsz (by decide)) W14 K ks hksH.out (bklaid hKH.out hS.rows.below)).mono ?_
    rintro e w' ⟨h1, hB⟩
    refine ⟨?_, hB⟩
    obtain ⟨g, hg, hgi⟩ := RW.decM_enc K (RW.nV 1 2) D.data.toList [] hm1H.out (by rw [hDlH.out]; decide) (by simp)
    have hTe : T.data.toList = RW.encM (RW.nV 1 2) D.data.toList [] := by rw [hTH.out]; rfl
    unfold DecOut at h1
    rw [hTe, hg] at h1
    obtain ⟨v, h2, h3⟩ := h1
    refine ⟨v, ?_, h3⟩
    rw [h2]
    have e1 : RW.mcells g ⟨D.data.toList.toArray⟩ v = RW.mcells (RW.nV 1 2) D v := by
      rw [show (⟨D.data.toList.toArray⟩ : ByteArray) = D by cases D; simp]
      unfold RW.mcells
      rw [hgi 0 (by decide), hgi 1 (by decide), hgi 2 (by decide), hgi 3 (by decide), hgi 4 (by decide), hgi 5 (by decide)]
    rw [e1]
  have hcH := hide hc
  have hSH := hide hS
  clear hc hS hDsz hTsz
  go_upto_region 15 with (first
    | (go_at_call 23; refine hcH.out.mono ?_; rintro e w2 ⟨⟨v13, rfl, hv13⟩, hB2⟩; have hS2 := hide (hSH.out.next hB2); have hi13 := msg_info (RW.nV 1 2) D v13; have ho13 := msg_one (RW.nV 1 2) D v13 hv13.one; have hvH := hide hv13; clear hB2 hv13)
    | (refine wpList_store_new rfl 24 (.tmp 13) (.tmp 62) rfl (RW.mcells (RW.nV 1 2) D v13) rfl rfl 24 _ hi13 rfl ho13 ?_))
  obtain ⟨b13, hb13⟩ : ∃ b, b = w2.heap.size := ⟨_, rfl⟩
  have hS3 := hS2.out.new (RW.mcells (RW.nV 1 2) D v13)
  have hv3 := hvH.out.next ((Below.refl w2.heap.size w2).alloc (Nat.le_refl _) (.cells (RW.mcells (RW.nV 1 2) D v13) 24))
  rw [← hb13] at hS3 ⊢
  obtain ⟨R2, hR2⟩ : ∃ R2, R2 = (b13, RW.mcells (RW.nV 1 2) D v13) :: R := ⟨_, rfl⟩
  have hx13 : (b13, RW.mcells (RW.nV 1 2) D v13) ∈ R2 := by rw [hR2]; simp
  have hx3' : (b3, RW.mcells (RW.nV 1 2) D (.slice none 0 0)) ∈ R2 := by rw [hR2]; exact List.mem_cons_of_mem _ hx3H.out
  rw [← hR2] at hS3
  have hv3' : StrsV (w2.alloc (.cells (RW.mcells (RW.nV 1 2) D v13) 24)) v13 [] := hv3
  refine gen_world (fun W => SW R2 w bx mb 4 (RW.L2 D) W ∧ StrsV W v13 []) ⟨hS3, hv3'⟩ ?_
  have hx13H := hide hx13
  have hx3b := hide hx3'
  clear hx13 hx3' hR2 hv3 hv3' hS3 hb13 hS2 hvH hSH hcH
  rintro W15 ⟨hS, hv⟩
  have hc := encode_any (fun _ => 0) ⟨#[]⟩ (.slice none 0 0) [] W15 K (StrsV.nil W15) (Nat.zero_le _) (by simp) ks hksH.out (bklaid hKH.out hS.rows.below)
  rw [encRes, if_neg (show ¬ RW.msgB K (fun _ => 0) (⟨#[]⟩ : ByteArray).data.toList (RW.bl []) = true by rw [show RW.msgB K (fun _ => 0) (⟨#[]⟩ : ByteArray).data.toList (RW.bl []) = false from RW.zero_bad K]; decide)] at hc
  have hcH := hide hc
  have hSH := hide hS
  have hvH := hide hv
  clear hc hS hv
  go_upto_region 16 with (go_at_call 12; refine hcH.out.mono ?_; rintro e w2 ⟨rfl, hB2⟩; have hS2 := hide (hSH.out.next hB2); have hv2 := hide (hvH.out.next hB2); clear hB2)
  refine gen_world (fun W => SW R2 w bx mb 4 (RW.L2 D) W ∧ StrsV W v13 []) ⟨hS2.out, hv2.out⟩ ?_
  clear hS2 hv2 hSH hvH hcH
  rintro W16 ⟨hS, hv⟩
  have hc := value_any (StrsV.nil W16) (Nat.zero_le _)
  rw [valRes, if_pos (show RW.asc (RW.bl []) = true from rfl), show (⟨(RW.valL (RW.bl [])).toArray⟩ : ByteArray) = ⟨#[0]⟩ from RW.val_nil] at hc
  have hcH := hide hc
  have hSH := hide hS
  have hvH := hide hv
  clear hc hS hv
  go_upto_region 18 with (go_at_call 26; refine hcH.out.mono ?_; rintro e w2 ⟨rfl, hB2⟩; have hS2 := hide (hSH.out.next hB2); have hv2 := hide (hvH.out.next hB2); clear hB2)
  refine gen_world (fun W => SW R2 w bx mb 4 (RW.L2 D) W ∧ StrsV W v13 []) ⟨hS2.out, hv2.out⟩ ?_
  clear hS2 hv2 hSH hvH hcH
  rintro W18 ⟨hS, hv⟩
  have hr := hS.rows.rows _ hx3b.out
  have hSH := hide hS
  have hvH := hide hv
  have hcn : ∀ W, Calls Tryd.prog 35 #[.pointer none, .int .i64 4, .int .i64 5, .int .i64 0, .string D] W fun e w' => e = .returned (.int .i64 0) ∧ Below W.heap.size W w' := fun W => count_of (.pointer none) [] 0 W 4 5 0 D (fun W' h => by subst h; exact counts_nil [] W' 4 5 0)
  have hcnH := hide hcn
  clear hS hv hcn
  go_upto_region 19 with (first
    | (refine wpList_load_row rfl 24 (.tmp 3) rfl b3 rfl 24 (RW.mcells (RW.nV 1 2) D (.slice none 0 0)) (0, 0) _ hr Tryd.underlying24 rfl hi3 ?_)
    | (go_at_call 31; refine (bxadd_nil _ _).mono ?_; rintro e w2 ⟨rfl, hB2⟩; have hS2 := hide (hSH.out.next hB2); have hv2 := hide (hvH.out.next hB2); clear hB2)
    | (go_at_call 35; refine (hcnH.out _).mono ?_; rintro e w3 ⟨rfl, hB3⟩; have hS3 := hide (hS2.out.next hB3); have hv3 := hide (hv2.out.next hB3); clear hB3)
    | (go_at_call 37; refine (ahead_nil _ 5 0).mono ?_; rintro e w4 ⟨rfl, rfl⟩))
  refine gen_world (fun W => SW R2 w bx mb 4 (RW.L2 D) W ∧ StrsV W v13 []) ⟨hS3.out, hv3.out⟩ ?_
  clear hS3 hv3 hS2 hv2 hSH hvH hcnH hr
  rintro W19 ⟨hS, hv⟩
  have hSH := hide hS
  have hvH := hide hv
  have ef1 : RW.faults 1 = 0 := rfl
  have ef4 : RW.faults 4 = 1 := rfl
  have ef7 : RW.faults 7 = 2 := rfl
  have eq4 : RW.quorum 4 = 3 := rfl
  have eq6 : RW.quorum 6 = 5 := rfl
  have eq8 : RW.quorum 8 = 0 := rfl
  clear hS hv
  go_upto_region 20 with (first
    | (go_at_call 18; refine (faults_any _ _).mono ?_; rintro e w' ⟨rfl, rfl⟩)
    | (go_at_call 20; refine (quorum_any _ _).mono ?_; rintro e w' ⟨rfl, rfl⟩))
  have hcn : Calls Tryd.prog 35 #[.pointer (some ⟨bx, 0, none⟩), .int .i64 4, .int .i64 5, .int .i64 0, .string D] W19 fun e w' => e = .returned (.int .i64 1) ∧ Below W19.heap.size W19 w' := by
    have h := count_of (.pointer (some ⟨bx, 0, none⟩)) (RW.L2 D) 4 W19 4 5 0 D (fun W' h => by subst h; exact counts_any bx mb 4 (RW.L2 D) _ hSH.out.box (by decide) 4 5 0)
    rw [RW.count_L2 D hD0H.out] at h
    exact h
  have hsm : ∀ W, StrsV W v13 [] → Calls Tryd.prog 16 #[.agg (RW.mcells (RW.nV 1 2) D v13), .agg (RW.mcells (RW.nV 1 2) D (.slice none 0 0))] W fun e w' => e = .returned (.bool true) ∧ Below W.heap.size W w' := fun W hv => by
    have h := same_any (RW.nV 1 2) (RW.nV 1 2) D D v13 (.slice none 0 0) [] [] W hv (StrsV.nil W) (Nat.zero_le _) (Nat.zero_le _)
    rw [RW.dec_true (fun i _ => rfl), decide_eq_true (rfl : ([] : List ByteArray) = []), decide_eq_true (rfl : D = D)] at h
    exact h
  have hah : ∀ (r : Int) (m : Nat) W, (∀ S, RW.AheadOf (RW.L2 D) 5 r S → S.length = m) → BoxAt W bx mb 4 (RW.L2 D) → Calls Tryd.prog 37 #[.pointer (some ⟨bx, 0, none⟩), .int .i64 5, .int .i64 r] W fun e w' => e = .returned (.int .i64 m) ∧ Below W.heap.size W w' := fun r m W hm hb => by
    refine (ahead_any bx mb 4 (RW.L2 D) W hb 5 r).mono ?_
    rintro e w' ⟨⟨S, rfl, hS⟩, hB⟩
    rw [hm S hS]
    exact ⟨rfl, hB⟩
  have hA0 := fun W => hah 0 2 W (fun S h => RW.ahead_L2 D h)
  have hA1 := fun W => hah 1 0 W (fun S h => RW.ahead_L2' D h)
  have hA0H := hide hA0
  have hA1H := hide hA1
  have hcnH := hide hcn
  have hsmH := hide hsm
  clear ef1 ef4 ef7 eq4 eq6 eq8 hcn hsm hah hA0 hA1
  have hw0 := hide hSH.out.rows.below
  go_wp2_with (first
    | (go_at_call 35; refine hcnH.out.mono ?_; rintro e w2 ⟨rfl, hB2⟩; have hSa := hide (hSH.out.next hB2); have hva := hide (hvH.out.next hB2); clear hB2)
    | (go_at_call 37; refine (hA1H.out _ hSb.out.box).mono ?_; rintro e w4 ⟨rfl, hB4⟩; have hSc := hide (hSb.out.next hB4); have hvc := hide (hvb.out.next hB4); have hl3 := hSc.out.ld _ _ _ _ hx3b.out; have hl13 := hSc.out.ld _ _ _ _ hx13H.out; clear hB4)
    | (go_at_call 37; refine (hA0H.out _ hSa.out.box).mono ?_; rintro e w3 ⟨rfl, hB3⟩; have hSb := hide (hSa.out.next hB3); have hvb := hide (hva.out.next hB3); clear hB3)
    | (go_at_call 16; refine (hsmH.out _ hvc.out).mono ?_; rintro e w5 ⟨rfl, hB5⟩; have hSd := hide (hSc.out.next hB5); clear hB5))
  go_ret
  exact ⟨rfl, hSd.out.rows.below⟩
end Go.Proofs.YtcbckcojebanaaaDoor

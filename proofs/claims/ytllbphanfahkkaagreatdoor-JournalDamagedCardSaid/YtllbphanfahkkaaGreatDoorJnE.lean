/-
  Package royaltylaw23: sized, heads: what they return; only new memory is written.
-/
import Derived.Test.YtllbphanfahkkaaGreatDoorJnD
import Derived.Test.YtllbphanfahkkaaGreatDoorRj1
namespace Go.Proofs.YtllbphanfahkkaaGreatDoor
open Go.RowKit RG
set_option maxRecDepth 10000 in
set_option maxHeartbeats 4000000 in
theorem sized_any (v : Value) (l : List ByteArray) (at_ : Nat) (hat : at_ ≤ 6000) (w : World) (hl : StrR w v l) (hll : l.length ≤ 1000) (hs : ∀ r ∈ l, r.size ≤ 65536) :
    Calls Tryz.prog 27 #[v, .int .i64 (at_ : Int)] w fun e w' => e = .returned (.bool (RW.siz l (at_ : Int))) ∧ Below w.heap.size w w' := by
  have hlA := hide hl
  obtain ⟨la, lc, rfl, _, _⟩ := id hl
  obtain ⟨n, hn⟩ : ∃ n, n = l.length := ⟨_, rfl⟩
  have hnH := hide hn
  have hsH := hide hs
  rw [← hn] at hlA hll ⊢
  obtain ⟨q, hq⟩ : ∃ q, q = RW.siz l (at_ : Int) := ⟨_, rfl⟩
  have hqH := hide hq
  rw [← hq]
  clear hl hn hs hq
  go_enter Tryz.func27, Tryz.ntmps27
  go_wp2
  go_loopw [1, 5] (fun tv i wr => ∃ (j : Nat) (t : Int), i = .int .i64 j ∧ tv = .int .i64 t ∧ j ≤ n ∧ -(j : Int) * 66000 ≤ t ∧ t ≤ 6000 ∧ Hid (Below w.heap.size w wr ∧ RW.siz (l.drop j) t = q)) (fun _ i _ => n - (intOf i).toNat)
  case atStart => exact ⟨0, (at_ : Int), rfl, rfl, Nat.zero_le _, by omega, by omega, ⟨Below.refl _ _, by rw [List.drop_zero]; exact hqH.out.symm⟩⟩
  case round =>
    obtain ⟨j, t, rfl, rfl, hj, ht1, ht2, hQ⟩ := hrel
    obtain ⟨wo, hwo⟩ : ∃ wo, wo = wr := ⟨_, rfl⟩
    subst hwo
    have hB := hide hQ.out.1
    have hz := hide hQ.out.2
    clear hQ
    by_cases hjn : j < n
    · obtain ⟨r, hr⟩ : ∃ r, l[j]? = some r := ⟨_, List.getElem?_eq_getElem (by rw [← hnH.out]; exact hjn)⟩
      obtain ⟨g0, o0, lc', e', hcell⟩ := strR_cell (W' := wo) (by have h := hlA.out; rw [hnH.out] at h; exact h) hr
      cases e'
      have hc := hcell wo hB.out
      have hcH := hide hcell
      have hrs := hsH.out r (List.mem_of_getElem? hr)
      have hPI := hide (rputint r.size (by omega) (by omega) wo)
      obtain ⟨P, hP⟩ : ∃ P : ByteArray, P = ⟨(RW.putI (r.size : Int)).toArray⟩ := ⟨_, rfl⟩
      rw [← hP] at hPI
      have hPs : P.size = (RW.putI (r.size : Int)).length := by rw [hP]; show (RW.putI (r.size : Int)).toArray.size = _; simp
      have hP10 : P.size ≤ 10 := by rw [hPs]; exact RW.putI_len _
      have hdr : l.drop j = r :: l.drop (j + 1) := by
        have h1 := (List.getElem?_eq_some_iff.1 hr)
        obtain ⟨h2, h3⟩ := h1
        rw [← h3]
        exact List.drop_eq_getElem_cons h2
      have hzs := hide (show RW.siz (l.drop j) t = if 1 ≤ t ∧ t ≤ (P.size : Int) then true else RW.siz (l.drop (j + 1)) (t - (1 + P.size + r.size + 32)) by rw [hdr, hPs, ← size_list]; rfl)
      clear hr hcell hP hPs hdr
      by_cases h1 : 1 ≤ t
      · by_cases h2 : t ≤ (P.size : Int)
        · have hq1 := hide (show q = true by rw [← hz.out, hzs.out, if_pos ⟨h1, h2⟩])
          go_wp2_with (go_at_call 61; refine hPI.out.mono ?_; rintro e w5 ⟨rfl, hB5⟩; have hB5H := hide (hB.out.trans (hB5.mono hB.out.size)); have hc5 := hcH.out _ hB5H.out; clear hB5)
          go_ret
          exact ⟨by rw [hq1.out] <;> rfl, hB5H.out⟩
        · have hz2 := hide (show RW.siz (l.drop (j + 1)) (t - (1 + P.size + r.size + 32)) = q by rw [← hz.out, hzs.out, if_neg (fun h => h2 h.2)])
          go_wp2_with (go_at_call 61; refine hPI.out.mono ?_; rintro e w5 ⟨rfl, hB5⟩; have hB5H := hide (hB.out.trans (hB5.mono hB.out.size)); have hc5 := hcH.out _ hB5H.out; clear hB5)
          go_roundw
          case rel => exact ⟨j + 1, t - (1 + P.size + r.size + 32), by go_num, by go_num, by omega, by omega, by omega, ⟨hB5H.out, hz2.out⟩⟩
          case measure => simp [intOf]; omega
      · have hz2 := hide (show RW.siz (l.drop (j + 1)) (t - (1 + P.size + r.size + 32)) = q by rw [← hz.out, hzs.out, if_neg (fun h => h1 h.1)])
        go_wp2_with (go_at_call 61; refine hPI.out.mono ?_; rintro e w5 ⟨rfl, hB5⟩; have hB5H := hide (hB.out.trans (hB5.mono hB.out.size)); have hc5 := hcH.out _ hB5H.out; clear hB5)
        go_roundw
        case rel => exact ⟨j + 1, t - (1 + P.size + r.size + 32), by go_num, by go_num, by omega, by omega, by omega, ⟨hB5H.out, hz2.out⟩⟩
        case measure => simp [intOf]; omega
    · obtain rfl : n = j := by omega
      have hq1 := hide (show q = false by rw [← hz.out, hnH.out, List.drop_length]; rfl)
      go_wp2
      go_ret
      exact ⟨by rw [hq1.out] <;> rfl, hB.out⟩
namespace RW
theorem hss_snoc (H : List UInt8 → List UInt8) : ∀ (l : List ByteArray) (h : List UInt8) (r : ByteArray), hss H h (l ++ [r]) = hss H h l ++ [2 :: (hds H h l ++ r.data.toList)]
  | [], _, _ => rfl
  | x :: l, h, r => by
    show (2 :: (h ++ x.data.toList)) :: hss H (chn H h x) (l ++ [r]) = _
    rw [hss_snoc H l (chn H h x) r]
    rfl
/-- the strings of which the heads are reckoned, as strings -/
def hssB (H : List UInt8 → List UInt8) (l : List ByteArray) : List ByteArray := (hss H z32 l).map strOf
theorem hssB_snoc (H : List UInt8 → List UInt8) (l : List ByteArray) (r : ByteArray) : hssB H (l ++ [r]) = hssB H l ++ [strOf (2 :: (hds H z32 l ++ r.data.toList))] := by
  unfold hssB
  rw [hss_snoc, List.map_append]
  rfl
theorem hssB_len (H : List UInt8 → List UInt8) (l : List ByteArray) : (hssB H l).length = l.length := by
  unfold hssB
  rw [List.length_map, hss_len]
end RW
set_option maxRecDepth 10000 in
set_option maxHeartbeats 4000000 in
theorem heads_any (v : Value) (l : List ByteArray) (w : World) (hl : StrR w v l) (hll : l.length ≤ 1000000) (hs : ∀ r ∈ l, r.size ≤ 65536) :
    Calls Tryz.prog 28 #[v] w fun e w' => ∃ u, e = .returned u ∧ StrsOwn w' w.heap.size u (RW.hssB (RW.sha RW.k0F) l) ∧ Below w.heap.size w w' := by
  have hlA := hide hl
  obtain ⟨la, lc, rfl, _, _⟩ := id hl
  obtain ⟨n, hn⟩ : ∃ n, n = l.length := ⟨_, rfl⟩
  have hnH := hide hn
  have hsH := hide hs
  rw [← hn] at hlA hll ⊢
  obtain ⟨B, hB⟩ : ∃ B, B = w.heap.size := ⟨_, rfl⟩
  have hBH := hide hB
  rw [← hB]
  have hHn := hide (fun W => rhead_any (.slice none 0 0) [] W (RowV.nil W) (by decide) (fun r hr => by cases hr))
  have hnil := hide (show RW.hds (RW.sha RW.k0F) RW.z32 [] = RW.z32 from rfl)
  rw [hnil.out] at hHn
  clear hl hn hs hB
  go_enter Tryz.func28, Tryz.ntmps28
  go_wp2_with (go_at_call 48; refine (hHn.out _).mono ?_; rintro e w4 ⟨rfl, hB4⟩; have hB4H := hide (hBH.out ▸ hB4 : Below B w w4); clear hB4)
  clear hHn
  go_loopw [3, 4, 5] (fun u hv i wr => ∃ (j : Nat), i = .int .i64 j ∧ j ≤ n ∧ hv = .string (RW.strOf (RW.hds (RW.sha RW.k0F) RW.z32 (l.take j))) ∧ Hid (StrsOwn wr B u (RW.hssB (RW.sha RW.k0F) (l.take j)) ∧ Below B w wr)) (fun _ _ i _ => n - (intOf i).toNat)
  case atStart => exact ⟨0, rfl, Nat.zero_le _, rfl, ⟨strs_nil _ _, hB4H.out⟩⟩
  case round =>
    obtain ⟨j, rfl, hj, rfl, hQ⟩ := hrel
    obtain ⟨wo, hwo⟩ : ∃ wo, wo = wr := ⟨_, rfl⟩
    subst hwo
    have ho := hide hQ.out.1
    have hBo := hide hQ.out.2
    clear hQ hB4H
    by_cases hjn : j < n
    · obtain ⟨r, hr⟩ : ∃ r, l[j]? = some r := ⟨_, List.getElem?_eq_getElem (by rw [← hnH.out]; exact hjn)⟩
      obtain ⟨g0, o0, lc', e', hcell⟩ := strR_cell (W' := wo) (by have h := hlA.out; rw [hnH.out] at h; exact h) hr
      cases e'
      have hcH := hide (fun W (hW : Below B w W) => hcell W (hBH.out ▸ hW))
      have hc := hcH.out wo hBo.out
      have hrs := hsH.out r (List.mem_of_getElem? hr)
      obtain ⟨X, hX⟩ : ∃ X, X = RW.strOf (RW.hds (RW.sha RW.k0F) RW.z32 (l.take j)) := ⟨_, rfl⟩
      have hXs : X.size = 32 := by rw [hX, RW.strOf_size]; exact hds_len32 _ _ (by simp [RW.z32])
      have hXl : X.data.toList = RW.hds (RW.sha RW.k0F) RW.z32 (l.take j) := by rw [hX, RW.strOf_list]
      have hCh := hide (fun W => rchain_any X r (by omega) W)
      have hnew := hide (show RW.strOf (RW.chn (RW.sha RW.k0F) X.data.toList r) = RW.strOf (RW.hds (RW.sha RW.k0F) RW.z32 (l.take (j + 1))) by rw [RW.take_snocB hr, RW.hds_snoc, hXl])
      have s1 : ((⟨#[2]⟩ : ByteArray)).size = 1 := rfl
      have h1 : ((⟨#[2]⟩ : ByteArray)).size + X.size ≤ 9223372036854775807 := by rw [s1]; omega
      have h2 : ((⟨#[2]⟩ : ByteArray) ++ X).size + r.size ≤ 9223372036854775807 := by rw [app_size, s1]; omega
      obtain ⟨u', W', hrun, ho', hcg, _⟩ := run_app_str (((⟨#[2]⟩ : ByteArray) ++ X) ++ r) ho.out (by rw [hBH.out]; exact hBo.out.size) (by rw [RW.hssB_len, List.length_take]; omega)
      have hB' := hide (hBo.out.trans (hcg.belowJ (fun k hk => (own_blk ho.out hk).1) (by rw [hBH.out]; exact hBo.out.size)))
      have hoN := hide (show StrsOwn W' B u' (RW.hssB (RW.sha RW.k0F) (l.take (j + 1))) by
        rw [RW.take_snocB hr, RW.hssB_snoc, ← hXl, show RW.strOf (2 :: (X.data.toList ++ r.data.toList)) = ((⟨#[2]⟩ : ByteArray) ++ X) ++ r from RW.bytes_eq (by rw [RW.strOf_list, app_data, app_data]; rfl)]
        exact ho')
      rw [← hX]
      clear hr hcell hX hXs hXl ho' hcg hrs s1
      go_upto_region 7 with (at_builtin; refine wpList_app_run rfl (.tmp 13) (.tmp 21) rfl rfl rfl hrun ?_)
      refine gen_w (fun W => StrsOwn W B u' (RW.hssB (RW.sha RW.k0F) (l.take (j + 1))) ∧ Below B w W) ⟨hoN.out, hB'.out⟩ ?_
      clear hrun hoN hB' h1 h2 hc
      rintro w6 ⟨g1, g2⟩
      have ho6 := hide g1
      have hB6 := hide g2
      clear g1 g2
      have hc6 := hcH.out w6 hB6.out
      go_wp2_with (go_at_call 62; refine (hCh.out _).mono ?_; rintro e w5 ⟨rfl, hB5⟩; have hB5H := hide (hB6.out.trans (hB5.mono (by rw [hBH.out]; exact hB6.out.size))); have ho5 := hide (own_keep ho6.out fun g hg => hB5.block g (own_blk ho6.out hg).2.1); clear hB5)
      go_roundw
      case rel => exact ⟨j + 1, by go_num, by omega, by rw [hnew.out], ⟨ho5.out, hB5H.out⟩⟩
      case measure => simp [intOf]; omega
    · obtain rfl : n = j := by omega
      have hfin := hide (show l.take n = l by rw [hnH.out, List.take_length])
      go_wp2
      go_ret
      have hfo := ho.out
      rw [hfin.out] at hfo
      exact ⟨_, rfl, hfo, hBo.out⟩
end Go.Proofs.YtllbphanfahkkaaGreatDoor

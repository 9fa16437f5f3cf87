/-
  Packages royaltyref02, royaltyref23: Chain, Head, Stored: what they return; only new memory is written.
-/
import Derived.Test.YtllbphanfahkkaaGreatDoorRs4
import Derived.Test.YtllbphanfahkkaaGreatDoorRk4
import Derived.Test.YtllbphanfahkkaaGreatDoorJnW
namespace Go.Proofs.YtllbphanfahkkaaGreatDoor
open Go.RowKit RG
theorem app_size (a b : ByteArray) : (a ++ b).size = a.size + b.size := by rw [← size_list, app_data, List.length_append, size_list, size_list]
set_option maxRecDepth 10000 in
theorem rchain_any (a b : ByteArray) (h : a.size + b.size ≤ 1000000000) (w : World) :
    Calls Tryz.prog 62 #[.string a, .string b] w fun e w' => e = .returned (.string (RW.strOf (RW.chn (RW.sha RW.k0F) a.data.toList b))) ∧ Below w.heap.size w w' := by
  have s1 : ((⟨#[2]⟩ : ByteArray)).size = 1 := rfl
  have h1 : ((⟨#[2]⟩ : ByteArray)).size + a.size ≤ 9223372036854775807 := by rw [s1]; omega
  have h2 : ((⟨#[2]⟩ : ByteArray) ++ a).size + b.size ≤ 9223372036854775807 := by rw [app_size, s1]; omega
  have hS := hide (rsum_any (((⟨#[2]⟩ : ByteArray) ++ a) ++ b) (by rw [app_size, app_size, s1]; omega) w)
  have hd : (((⟨#[2]⟩ : ByteArray) ++ a) ++ b).data.toList = 2 :: (a.data.toList ++ b.data.toList) := by rw [app_data, app_data]; rfl
  rw [hd] at hS
  clear hd s1
  go_enter Tryz.func62, Tryz.ntmps62
  go_wp2_with (go_at_call 29; refine hS.out.mono ?_; rintro e w' ⟨rfl, hB⟩; have hBH := hide hB; clear hB)
  go_ret
  exact ⟨rfl, hBH.out⟩
theorem strOf_size32 (l r : List UInt8) (b : ByteArray) : (RW.strOf (RW.chn (RW.sha RW.k0F) l b)).size = 32 := by
  rw [RW.strOf_size]
  exact RW.sha_len _ _
theorem hds_len32 : ∀ (l : List ByteArray) (h : List UInt8), h.length = 32 → (RW.hds (RW.sha RW.k0F) h l).length = 32
  | [], _, h => h
  | r :: rs, h, _ => hds_len32 rs _ (RW.sha_len _ _)
set_option maxRecDepth 10000 in
set_option maxHeartbeats 2000000 in
theorem rhead_any (v : Value) (l : List ByteArray) (w : World) (hl : StrR w v l) (hll : l.length ≤ 9223372036854775807) (hs : ∀ r ∈ l, r.size ≤ 65536) :
    Calls Tryz.prog 48 #[v] w fun e w' => e = .returned (.string (RW.strOf (RW.hds (RW.sha RW.k0F) RW.z32 l))) ∧ Below w.heap.size w w' := by
  have hlA := hide hl
  obtain ⟨la, lc, rfl, _, _⟩ := id hl
  obtain ⟨n, hn⟩ : ∃ n, n = l.length := ⟨_, rfl⟩
  have hnH := hide hn
  have hsH := hide hs
  rw [← hn] at hlA hll ⊢
  clear hl hn hs
  have hmk : (Instr.makeSlice 39 (.int .i64 32) (.int .i64 32)).run Tryz.prog w = .ok (.slice (some ⟨w.heap.size, 0, none⟩) 32 32) (w.alloc (.cells (RW.byl RW.z32).toArray 5)) := run_make_by 32 (by decide) w
  have hcv : (convert 39 9 (.slice (some ⟨w.heap.size, 0, none⟩) 32 32)).run Tryz.prog (w.alloc (.cells (RW.byl RW.z32).toArray 5)) = .ok (.string (RW.strOf RW.z32)) (w.alloc (.cells (RW.byl RW.z32).toArray 5)) := conv_zs w 32
  have hb1 := hide (alloc_bel (Below.refl w.heap.size w) (Nat.le_refl _) (.cells (RW.byl RW.z32).toArray 5))
  go_enter Tryz.func48, Tryz.ntmps48
  go_wp2
  clear hmk hcv
  go_loopw [3, 4] (fun hv i wr => ∃ (j : Nat), i = .int .i64 j ∧ j ≤ n ∧ hv = .string (RW.strOf (RW.hds (RW.sha RW.k0F) RW.z32 (l.take j))) ∧ Hid (Below w.heap.size w wr)) (fun _ i _ => n - (intOf i).toNat)
  case atStart => exact ⟨0, rfl, Nat.zero_le _, rfl, hb1⟩
  case round =>
    obtain ⟨j, rfl, hj, rfl, hQ⟩ := hrel
    obtain ⟨wo, hwo⟩ : ∃ wo, wo = wr := ⟨_, rfl⟩
    subst hwo
    clear hb1
    by_cases hjn : j < n
    · obtain ⟨r, hr⟩ : ∃ r, l[j]? = some r := ⟨_, List.getElem?_eq_getElem (by rw [← hnH.out]; exact hjn)⟩
      obtain ⟨g0, o0, lc', e', hcell⟩ := strR_cell (W' := wo) (by have h := hlA.out; rw [hnH.out] at h; exact h) hr
      cases e'
      have hc := hcell wo hQ.out
      obtain ⟨X, hX⟩ : ∃ X, X = RW.strOf (RW.hds (RW.sha RW.k0F) RW.z32 (l.take j)) := ⟨_, rfl⟩
      have hXs : X.size = 32 := by rw [hX, RW.strOf_size]; exact hds_len32 _ _ (by simp [RW.z32])
      have hCh := hide (rchain_any X r (by have := hsH.out r (List.mem_of_getElem? hr); omega) wo)
      have hnew := hide (show RW.strOf (RW.chn (RW.sha RW.k0F) X.data.toList r) = RW.strOf (RW.hds (RW.sha RW.k0F) RW.z32 (l.take (j + 1))) by rw [RW.take_snocB hr, RW.hds_snoc, hX, RW.strOf_list])
      rw [← hX]
      clear hr hcell hX hXs
      go_wp2_with (go_at_call 62; refine hCh.out.mono ?_; rintro e w5 ⟨rfl, hB5⟩; have hB5H := hide (hQ.out.trans (hB5.mono hQ.out.size)); clear hB5)
      go_roundw
      case rel => exact ⟨j + 1, by go_num, by omega, by rw [hnew.out], hB5H⟩
      case measure => simp [intOf]; omega
    · obtain rfl : n = j := by omega
      have hfin := hide (show l.take n = l by rw [hnH.out, List.take_length])
      go_wp2
      go_ret
      exact ⟨by rw [hfin.out]; rfl, hQ.out⟩
set_option maxRecDepth 10000 in
theorem rstored_any (h r : ByteArray) (hh : h.size = 32) (hr : r.size ≤ 65536) (w : World) :
    Calls Tryz.prog 49 #[.string h, .string r] w fun e w' => e = .returned (.tuple #[.string (RW.strOf (RW.sto (RW.sha RW.k0F) h.data.toList r)), .string (RW.strOf (RW.chn (RW.sha RW.k0F) h.data.toList r))]) ∧ Below w.heap.size w w' := by
  have hCh := hide (rchain_any h r (by omega) w)
  obtain ⟨X, hX⟩ : ∃ X, X = RW.strOf (RW.chn (RW.sha RW.k0F) h.data.toList r) := ⟨_, rfl⟩
  have hXs : X.size = 32 := by rw [hX, RW.strOf_size]; exact RW.sha_len _ _
  obtain ⟨P, hP⟩ : ∃ P : ByteArray, P = ⟨(RW.putS r.data.toList).toArray⟩ := ⟨_, rfl⟩
  have hPu := hide (fun W => rputstr r hr W)
  rw [← hP] at hPu
  rw [← hX] at hCh
  have hPl : P.size = (RW.putS r.data.toList).length := by rw [hP, ← size_list]
  have hPs : P.size ≤ 65600 := by
    rw [hPl]
    have h1 := RW.putI_len (r.data.toList.length : Int)
    have h2 := size_list r
    unfold RW.putS
    rw [List.length_append]
    omega
  have s1 : ((⟨#[1]⟩ : ByteArray)).size = 1 := rfl
  have h1 : ((⟨#[1]⟩ : ByteArray)).size + P.size ≤ 9223372036854775807 := by rw [s1]; omega
  have h2 : ((⟨#[1]⟩ : ByteArray) ++ P).size + X.size ≤ 9223372036854775807 := by rw [app_size, s1, hXs]; omega
  have hres := hide (show ((⟨#[1]⟩ : ByteArray) ++ P) ++ X = RW.strOf (RW.sto (RW.sha RW.k0F) h.data.toList r) by
    apply ByteArray.ext
    apply Array.ext'
    rw [app_data, app_data, hP, hX]
    simp [RW.sto, RW.strOf])
  rw [← hX, ← hres.out]
  clear hX hP hPl hPs hXs s1 hres
  go_enter Tryz.func49, Tryz.ntmps49
  go_wp2_with (first
    | (go_at_call 62; refine hCh.out.mono ?_; rintro e w5 ⟨rfl, hB5⟩; have hB5H := hide hB5; clear hB5)
    | (go_at_call 91; refine (hPu.out _).mono ?_; rintro e w6 ⟨rfl, hB6⟩; have hB6H := hide (hB5H.out.trans (hB6.mono hB5H.out.size)); clear hB6))
  go_ret2
  exact ⟨rfl, hB6H.out⟩
end Go.Proofs.YtllbphanfahkkaaGreatDoor

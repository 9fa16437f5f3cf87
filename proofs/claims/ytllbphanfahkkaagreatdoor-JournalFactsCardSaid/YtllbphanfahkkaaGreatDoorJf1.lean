/-
  Package royaltylaw23: collected: the root of the set of some facts, and their number; only new memory is written.
-/
import Derived.Test.YtllbphanfahkkaaGreatDoorJfP
import Derived.Test.YtllbphanfahkkaaGreatDoorMis4
import Derived.Test.YtllbphanfahkkaaGreatDoorFs6
namespace Go.Proofs.YtllbphanfahkkaaGreatDoor
open Go.RowKit RG
theorem ix_fcJ {b o n c : Nat} {j : Nat} (hj : j < n) (W : World) : (Instr.indexAt 68 (.slice (some ⟨b, o, none⟩) n c) (.int .i64 j)).run Tryz.prog W = .ok (.pointer (some ⟨b, o + j * 18, none⟩)) W := by
  go_simp
theorem fact_sizeJ (x : RW.Fc) : (Tryz.prog.info? 70).map (·.size) = some (RW.fce x).length := by kernel_rfl
theorem factJ_cell {W : World} {v : Value} {l : List RW.Fc} {j : Nat} {y : RW.Fc} (h : FactsV W v l) (hy : l[j]? = some y) : ∃ g o c, v = .slice (some ⟨g, o, none⟩) l.length c ∧ ∀ W', Below W.heap.size W W' → (ldRow 70 (.pointer (some ⟨g, o + j * 18, none⟩))).run Tryz.prog W' = .ok (RW.fv y) W' := by
  have hne : l ≠ [] := by rintro rfl; simp at hy
  obtain ⟨b, o, c, rfl, _, hb, hc⟩ := h.at hne
  refine ⟨b, o, c, rfl, fun W' hB => ?_⟩
  exact ldRow_mid (fun i u hi => (World.cell?_of_block (a := ⟨b, o + j * 18 + i, none⟩) (hB.block _ hb)).trans (hc j y hy i u hi)) Tryz.underlying70 rfl (fact_sizeJ y)
theorem belJ_cat {B : Nat} {w W W' : World} (h1 : Below B w W) (hB : B ≤ w.heap.size) (h2 : Below W.heap.size W W') : Below B w W' := h1.trans (h2.mono (Nat.le_trans hB h1.size))
attribute [local go_sem ↓] ldRow_fact
set_option maxRecDepth 100000 in
set_option maxHeartbeats 4000000 in
theorem collected_any (K : Nat → Int) (ks : Array Value) (hks : RW.WsOk ks K) (v : Value) (l : List RW.Fc) (hl : l.length ≤ 4000) (w : World) (hv : FactsV w v l) (hK : KLaid w ks) :
    Calls Tryz.prog 37 #[v] w fun e w' => e = .returned (.tuple #[.string (RW.rootB K ((RW.colE K [] l).map (·.1))), .int .i64 (RW.colE K [] l).length]) ∧ Below w.heap.size w w' := by
  have hvA := hide hv
  obtain ⟨la, lc, rfl, _, _⟩ := id hv
  obtain ⟨n, hn⟩ : ∃ n, n = l.length := ⟨_, rfl⟩
  have hnH := hide hn
  rw [← hn] at hvA hl ⊢
  obtain ⟨B, hB⟩ : ∃ B, B = w.heap.size := ⟨_, rfl⟩
  have hBH := hide hB
  have hKH := hide (fun W (hW : Below B w W) => RW.klaid hK (hB ▸ hW : Below w.heap.size w W))
  have hksH := hide hks
  rw [← hB]
  have hok := hide (RW.colE_ok K n l (by rw [hn]))
  clear hv hn hB hK hks
  have hNew := hide (snew_any w)
  rw [← hBH.out] at hNew
  obtain ⟨R, hR⟩ : ∃ R, R = RW.rootB K ((RW.colE K [] l).map (·.1)) := ⟨_, rfl⟩
  obtain ⟨m, hm⟩ : ∃ m, m = (RW.colE K [] l).length := ⟨_, rfl⟩
  have hRt := hide (fun W sb mb (h : SetAt W sb mb (RW.colE K [] l)) (hb : Below B w W) => sroot_any K ks hksH.out sb mb _ (by have := hok.out.2.1; omega) (fun x hx => by rw [hok.out.2.2 x hx]; decide) W h (hKH.out W hb))
  have hLn := hide (fun W sb mb (h : SetAt W sb mb (RW.colE K [] l)) => slen_any sb mb _ W h)
  rw [← hR] at hRt
  rw [← hm] at hLn
  rw [← hR, ← hm]
  clear hR hm
  go_enter Tryz.func37, Tryz.ntmps37
  go_wp2_with (go_at_call 83; refine hNew.out.mono ?_; rintro e w1 ⟨sb, mb, rfl, g1, g2, g3, g4⟩; have hN := hide (And.intro g1 (And.intro g2 (And.intro g3 g4))); clear g1 g2 g3 g4)
  go_loopw [5] (fun i wr => ∃ (j : Nat), i = .int .i64 j ∧ j ≤ n ∧ Hid (SetAt wr sb mb (RW.colE K [] (l.take j)) ∧ Below B w wr)) (fun i _ => n - (intOf i).toNat)
  case atStart => exact ⟨0, rfl, Nat.zero_le _, hN.out.1, hN.out.2.1⟩
  case round =>
    obtain ⟨j, rfl, hj, hQ⟩ := hrel
    obtain ⟨wo, hwo⟩ : ∃ wo, wo = wr := ⟨_, rfl⟩
    subst hwo
    have hS := hide hQ.out.1
    have hBo := hide hQ.out.2
    have hmb := hide hN.out.2.2.2
    clear hQ hN hNew
    by_cases hjn : j < n
    · obtain ⟨x, hx⟩ : ∃ x, l[j]? = some x := ⟨_, List.getElem?_eq_getElem (by rw [← hnH.out]; exact hjn)⟩
      obtain ⟨g0, o0, lc', e', hcell⟩ := factJ_cell (by have h := hvA.out; rw [hnH.out] at h; exact h) hx
      cases e'
      have hld := hcell wo (by have h := hBo.out; rw [hBH.out] at h; exact h)
      have hAd := hide (sadd_any K ks hksH.out sb mb _ x wo hS.out (hKH.out wo hBo.out))
      obtain ⟨r1, hr1⟩ : ∃ r, r = (RW.addR K (RW.colE K [] (l.take j)) x).1 := ⟨_, rfl⟩
      obtain ⟨r2, hr2⟩ : ∃ r, r = (RW.addR K (RW.colE K [] (l.take j)) x).2.1 := ⟨_, rfl⟩
      rw [← hr1, ← hr2, ← RW.colE_snoc, ← RW.take_snocJ hx] at hAd
      obtain ⟨V, hV⟩ : ∃ V, V = RW.fv x := ⟨_, rfl⟩
      rw [← hV] at hAd hld
      clear hr1 hr2 hx hcell hV
      go_wp2_with (go_at_call 84; refine hAd.out.mono ?_; rintro e w2 ⟨rfl, g1, g2⟩; have hS2 := hide g1; have hB2 := hide (hBo.out.trans (g2.belowJ (fun k e => e ▸ hmb.out) (by rw [hBH.out]; exact hBo.out.size))); clear g1 g2)
      go_roundw
      case rel => exact ⟨j + 1, by go_num, by omega, hS2.out, hB2.out⟩
      case measure => simp [intOf]; omega
    · obtain rfl : n = j := by omega
      have hS2 := hide (show SetAt wo sb mb (RW.colE K [] l) by
        have h := hS.out
        rw [hnH.out, List.take_length] at h
        exact h)
      have hRt2 := hide (hRt.out wo sb mb hS2.out hBo.out)
      go_wp2_with (first
        | (go_at_call 85; refine hRt2.out.mono ?_; rintro e w3 ⟨rfl, h3⟩; have hS3 := hide (hS2.out.next h3); have hB3 := hide (hBo.out.trans (h3.mono (by rw [hBH.out]; exact hBo.out.size))); clear h3)
        | (go_at_call 86; refine (hLn.out _ sb mb hS3.out).mono ?_; rintro e w4 ⟨rfl, rfl⟩))
      go_ret2
      exact ⟨rfl, hB3.out⟩
end Go.Proofs.YtllbphanfahkkaaGreatDoor

/-
  The reference's Paid: what it returns at books; only new memory is written.
-/
import Derived.Test.YtillplhadimgmaaSt6
namespace Go.Proofs.Ytillplhadimgmaa
open Go.RowKit
set_option maxRecDepth 10000 in
set_option maxHeartbeats 2000000 in
theorem rpaid_any (z h p : Int) (v : Value) (l : List RW.Rw) (hl : l.length ≤ 100) (hnr : RW.NearR l) (w : World) (hv : RwsV w v l) :
    Calls Try.prog 29 #[.agg (bks z v), .int .i64 h, .int .i64 p] w fun e w' => e = .returned (.int .i64 (RW.paid l h p)) ∧ Below w.heap.size w w' := by
  unfold bks
  obtain ⟨a, ca, rfl, hca, ha⟩ := hv
  obtain ⟨n, hn⟩ : ∃ n, n = l.length := ⟨_, rfl⟩
  obtain ⟨B, hBe⟩ : ∃ B, B = w.heap.size := ⟨_, rfl⟩
  rw [← hn] at hl ⊢
  have hnH := hide hn
  have haH := hide ha
  have hBH := hide hBe
  have hnrH := hide hnr
  have hA0 := hide (alloc_bel (Below.refl w.heap.size w) (Nat.le_refl _) (.cells #[.int .i64 z, .slice none 0 0, .slice a n ca, .slice none 0 0, .slice none 0 0, .slice none 0 0] 28))
  have hs0 := hide (alloc_at1 w (.cells #[.int .i64 z, .slice none 0 0, .slice a n ca, .slice none 0 0, .slice none 0 0, .slice none 0 0] 28))
  rw [← hBe] at hA0 hs0 ⊢
  clear ha hn hca hnr
  go_enter Try.func29, Try.ntmps29
  go_wp2
  rw [← hBe]
  clear hBe
  go_loopw [7, 8] (fun nv i wr => ∃ (j : Nat) (y : Int), nv = .int .i64 y ∧ i = .int .i64 j ∧ j ≤ n ∧ Hid (y = RW.paid (l.take j) h p ∧ Below B w wr ∧ wr.heap[B]? = some (.cells #[.int .i64 z, .slice none 0 0, .slice a n ca, .slice none 0 0, .slice none 0 0, .slice none 0 0] 28 (0, 0)))) (fun _ i _ => n - (intOf i).toNat)
  case atStart => exact ⟨0, 0, rfl, rfl, Nat.zero_le _, rfl, hA0.out, hs0.out⟩
  case round =>
    obtain ⟨j, y, rfl, rfl, hjn, hQ⟩ := hrel
    obtain ⟨wo, hwo⟩ : ∃ wo, wo = wr := ⟨_, rfl⟩
    subst hwo
    have hyH := hide hQ.out.1
    have hBw := hide hQ.out.2.1
    have hsB := hide hQ.out.2.2
    have e2 : wo.cell? ⟨B, 2, none⟩ = some (.slice a n ca) := cellAt hsB.out 2
    clear hQ hA0 hs0
    have hbd := RW.paid_bd h p (l.take j) (RW.near_take hnrH.out j)
    rw [← hyH.out, List.length_take] at hbd
    have hy0 : -200000000000000000 ≤ y := by omega
    have hy1 : y ≤ 200000000000000000 := by omega
    clear hbd
    by_cases hlt : j < n
    · obtain ⟨x, hx⟩ : ∃ x, l[j]? = some x := ⟨_, List.getElem?_eq_getElem (by rw [← hnH.out]; exact hlt)⟩
      obtain ⟨b, o, rfl, hb, hc⟩ := haH.out.resolve_left (by rintro rfl; simp at hx)
      have hrg : wo.rangeAt b (o + j * 12) (RW.rwl x) := fun i u hu => (World.cell?_of_block (a := ⟨b, o + j * 12 + i, none⟩) (hBw.out.block _ (by rw [hBH.out]; exact hb))).trans (hc j x hx i u hu)
      have htk := hide (show RW.paid (l.take (j + 1)) h p = y + RW.pays h p x by rw [List.take_add_one, hx, Option.toList_some, RW.paid_snoc, hyH.out])
      obtain ⟨k0, k1⟩ := hnrH.out x (List.mem_of_getElem? hx)
      have e0 : wo.cell? ⟨b, o + j * 12, none⟩ = some (.int .i64 (x 0)) := hrg 0 _ rfl
      have e1 : wo.cell? ⟨b, o + j * 12 + 1, none⟩ = some (.int .i64 (x 1)) := hrg 1 _ rfl
      have e10 : wo.cell? ⟨b, o + j * 12 + 10, none⟩ = some (.int .i64 (x 10)) := hrg 10 _ rfl
      clear hx hb hc hrg
      obtain ⟨x0, h0⟩ : ∃ x0, x0 = x 0 := ⟨_, rfl⟩
      obtain ⟨x1, h1⟩ : ∃ x1, x1 = x 1 := ⟨_, rfl⟩
      obtain ⟨x10, h10⟩ : ∃ x10, x10 = x 10 := ⟨_, rfl⟩
      have hp := hide (show RW.pays h p x = if x0 = h ∧ x1 = p then x10 else 0 by rw [h0, h1, h10]; rfl)
      rw [← h0] at e0
      rw [← h1] at e1
      rw [← h10] at e10 k0 k1
      clear h0 h1 h10
      by_cases q0 : x0 = h
      · by_cases q1 : x1 = p
        · have hp' := hide (show RW.pays h p x = x10 by rw [hp.out, if_pos ⟨q0, q1⟩])
          go_wp2
          go_roundw
          case rel => exact ⟨j + 1, y + x10, by go_num, by go_num, by omega, by rw [htk.out, hp'.out], hBw.out, hsB.out⟩
          case measure => simp [intOf]; omega
        · have hp' := hide (show RW.pays h p x = 0 by rw [hp.out, if_neg (fun e => q1 e.2)])
          go_wp2
          go_roundw
          case rel => exact ⟨j + 1, y, rfl, by go_num, by omega, by rw [htk.out, hp'.out, Int.add_zero], hBw.out, hsB.out⟩
          case measure => simp [intOf]; omega
      · have hp' := hide (show RW.pays h p x = 0 by rw [hp.out, if_neg (fun e => q0 e.1)])
        go_wp2
        go_roundw
        case rel => exact ⟨j + 1, y, rfl, by go_num, by omega, by rw [htk.out, hp'.out, Int.add_zero], hBw.out, hsB.out⟩
        case measure => simp [intOf]; omega
    · obtain rfl : j = n := by omega
      have hz := hide (show y = RW.paid l h p by rw [hyH.out, List.take_of_length_le (by rw [← hnH.out]; exact Nat.le_refl _)])
      go_wp2
      go_ret
      exact ⟨by rw [← hz.out] <;> rfl, hBw.out⟩
end Go.Proofs.Ytillplhadimgmaa

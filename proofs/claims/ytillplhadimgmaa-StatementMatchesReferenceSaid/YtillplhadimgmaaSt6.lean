/-
  Package balance: Paid; the reference's Paid: what they return at books; only new memory is written.
-/
import Derived.Test.YtillplhadimgmaaSt2
namespace Go.Proofs.Ytillplhadimgmaa
open Go.RowKit
theorem rw_len (x : RW.Rw) : (RW.rwl x).length = 12 := rfl
theorem rw_size (x : RW.Rw) : (Try.prog.info? 57).map (·.size) = some (RW.rwl x).length := by kernel_rfl
theorem rw_one (x : RW.Rw) : (RW.rwl x).toArray.all (·.oneCell') = true := by
  simp [RW.rwl]
  exact ⟨rfl, rfl, rfl, rfl, rfl, rfl, rfl, rfl, rfl, rfl, rfl, rfl⟩
/-- a slice of rows -/
abbrev RwsV (W : World) (v : Value) (l : List RW.Rw) : Prop := RowV 12 RW.rwl W v l
/-- books: the last period, rows, nothing else -/
def bks (z : Int) (v : Value) : Array Value := #[.int .i64 z, .slice none 0 0, v, .slice none 0 0, .slice none 0 0, .slice none 0 0]
theorem pays_bd {l : List RW.Rw} (hl : RW.NearR l) {x : RW.Rw} (hx : x ∈ l) (h p : Int) : -2000000000000000 ≤ RW.pays h p x ∧ RW.pays h p x ≤ 2000000000000000 := by
  have := hl x hx
  unfold RW.pays
  split <;> omega
set_option maxRecDepth 10000 in
set_option maxHeartbeats 2000000 in
theorem paid_any (z h p : Int) (v : Value) (l : List RW.Rw) (hl : l.length ≤ 100) (hnr : RW.NearR l) (w : World) (hv : RwsV w v l) :
    Calls Try.prog 25 #[.agg (bks z v), .int .i64 h, .int .i64 p] w fun e w' => e = .returned (.int .i64 (RW.paid l h p)) ∧ Below w.heap.size w w' := by
  unfold bks
  obtain ⟨a, ca, rfl, hca, ha⟩ := hv
  obtain ⟨n, hn⟩ : ∃ n, n = l.length := ⟨_, rfl⟩
  obtain ⟨B, hBe⟩ : ∃ B, B = w.heap.size := ⟨_, rfl⟩
  rw [← hn] at hl ⊢
  have hnH := hide hn
  have haH := hide ha
  have hBH := hide hBe
  have hB0 := hide (Nat.le_of_eq hBe)
  have hnrH := hide hnr
  have hA0 := hide (alloc_bel (Below.refl w.heap.size w) (Nat.le_refl _) (.cells #[.int .i64 z, .slice none 0 0, .slice a n ca, .slice none 0 0, .slice none 0 0, .slice none 0 0] 28))
  rw [← hBe] at hA0 ⊢
  clear ha hn hca hBe hnr
  go_enter Try.func25, Try.ntmps25
  go_wp2
  go_loopw [7, 13] (fun nv i wr => ∃ (j : Nat) (y : Int), nv = .int .i64 y ∧ i = .int .i64 j ∧ j ≤ n ∧ Hid (y = RW.paid (l.take j) h p ∧ Below B w wr)) (fun _ i _ => n - (intOf i).toNat)
  case atStart => exact ⟨0, 0, rfl, rfl, Nat.zero_le _, rfl, hA0.out⟩
  case round =>
    obtain ⟨j, y, rfl, rfl, hjn, hQ⟩ := hrel
    obtain ⟨wo, hwo⟩ : ∃ wo, wo = wr := ⟨_, rfl⟩
    subst hwo
    have hyH := hide hQ.out.1
    have hBw := hide hQ.out.2
    clear hQ hA0
    have hbd := RW.paid_bd h p (l.take j) (RW.near_take hnrH.out j)
    rw [← hyH.out, List.length_take] at hbd
    have hy0 : -200000000000000000 ≤ y := by omega
    have hy1 : y ≤ 200000000000000000 := by omega
    clear hbd
    by_cases hlt : j < n
    · obtain ⟨x, hx⟩ : ∃ x, l[j]? = some x := ⟨_, List.getElem?_eq_getElem (by rw [← hnH.out]; exact hlt)⟩
      obtain ⟨b, o, rfl, hb, hc⟩ := haH.out.resolve_left (by rintro rfl; simp at hx)
      have hrg : wo.rangeAt b (o + j * 12) (RW.rwl x) := fun i u hu => (World.cell?_of_block (a := ⟨b, o + j * 12 + i, none⟩) (hBw.out.block _ (by rw [hBH.out]; exact hb))).trans (hc j x hx i u hu)
      have hps := rw_size x
      have hpo := rw_one x
      have htk := hide (show RW.paid (l.take (j + 1)) h p = y + RW.pays h p x by rw [List.take_add_one, hx, Option.toList_some, RW.paid_snoc, hyH.out])
      have hx10 := hnrH.out x (List.mem_of_getElem? hx)
      obtain ⟨k0, k1⟩ := hx10
      obtain ⟨bx, hbx⟩ : ∃ b, b = wo.heap.size := ⟨_, rfl⟩
      have hg0 := hide (show (wo.alloc (.cells (RW.rwl x).toArray 57)).heap[bx]? = some (.cells (RW.rwl x).toArray 57 (0, 0)) from newAt hbx)
      have hbxH := hide hbx
      clear hbx hx hb hc
      go_upto_region 5 with (first
        | (refine wpList_load_mid rfl 57 (.tmp 15) rfl b (o + j * 12) rfl (RW.rwl x) _ hrg Try.underlying57 rfl hps ?_)
        | (refine wpListStoreNew rfl 57 (.tmp 9) (.tmp 16) rfl (RW.rwl x).toArray rfl rfl 57 _ hps rfl hpo ?_))
      refine gen_w (fun W => W.heap[bx]? = some (.cells (RW.rwl x).toArray 57 (0, 0)) ∧ Below B w W) ⟨hg0.out, alloc_bel hBw.out hB0.out _⟩ ?_
      rw [← hbxH.out]
      clear hg0 hBw hbxH hrg hps hpo
      rintro w5 ⟨g1, g2⟩
      have e0 : w5.cell? ⟨bx, 0, none⟩ = some (.int .i64 (x 0)) := cellAt g1 0
      have e1 : w5.cell? ⟨bx, 1, none⟩ = some (.int .i64 (x 1)) := cellAt g1 1
      have e10 : w5.cell? ⟨bx, 10, none⟩ = some (.int .i64 (x 10)) := cellAt g1 10
      have hBw := hide g2
      clear g1 g2
      obtain ⟨x0, h0⟩ : ∃ x0, x0 = x 0 := ⟨_, rfl⟩
      obtain ⟨x1, h1⟩ : ∃ x1, x1 = x 1 := ⟨_, rfl⟩
      obtain ⟨x10, h10⟩ : ∃ x10, x10 = x 10 := ⟨_, rfl⟩
      have hp := hide (show RW.pays h p x = if x0 = h ∧ x1 = p then x10 else 0 by rw [h0, h1, h10]; rfl)
      rw [← h0] at e0
      rw [← h1] at e1
      rw [← h10] at e10 k0 k1
      clear h0 h1 h10
      by_cases q0 : x0 = h
      · by_cases q1 : x1 = p
        · have hp' := hide (show RW.pays h p x = x10 by rw [hp.out, if_pos ⟨q0, q1⟩])
          go_wp2
          go_roundw
          case rel => exact ⟨j + 1, y + x10, by go_num, by go_num, by omega, by rw [htk.out, hp'.out], hBw.out⟩
          case measure => simp [intOf]; omega
        · have hp' := hide (show RW.pays h p x = 0 by rw [hp.out, if_neg (fun e => q1 e.2)])
          go_wp2
          go_roundw
          case rel => exact ⟨j + 1, y, rfl, by go_num, by omega, by rw [htk.out, hp'.out, Int.add_zero], hBw.out⟩
          case measure => simp [intOf]; omega
      · have hp' := hide (show RW.pays h p x = 0 by rw [hp.out, if_neg (fun e => q0 e.1)])
        go_wp2
        go_roundw
        case rel => exact ⟨j + 1, y, rfl, by go_num, by omega, by rw [htk.out, hp'.out, Int.add_zero], hBw.out⟩
        case measure => simp [intOf]; omega
    · obtain rfl : j = n := by omega
      have hz := hide (show y = RW.paid l h p by rw [hyH.out, List.take_of_length_le (by rw [← hnH.out]; exact Nat.le_refl _)])
      go_wp2
      go_ret
      exact ⟨by rw [← hz.out] <;> rfl, hBw.out⟩
end Go.Proofs.Ytillplhadimgmaa

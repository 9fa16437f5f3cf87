/-
  slices.Backward over strings: the elements come from the last one on, whatever each round does.
-/
import Derived.RangeFuncCalls
import Derived.Laws.IdiomStrings
import Derived.Test.YtllbphanfahkkaaGreatDoorDr1
namespace Go.Proofs.YtllbphanfahkkaaGreatDoor
open Go.RowKit Go.Shelf RG
theorem sbackward_any (a : Option Addr) (n c : Nat) (w : World) : Calls Tryz.prog 152 #[.slice a n c] w fun e w' => e = .returned (.func (.func 173) #[] #[.pointer (some ⟨w.heap.size, 0, none⟩)]) ∧ w' = w.alloc (.cells #[.slice a n c] 22) := by
  go_enter Tryz.func152, Tryz.ntmps152
  go_wp2
  go_ret
  exact ⟨rfl, rfl⟩
attribute [local go_sem] Oper.semAt_some
set_option maxRecDepth 100000 in
set_option maxHeartbeats 4000000 in
theorem bwd1_in (n : Nat) (hn : 2 ≤ n) (Bc ob lp : Nat) (a : Option Addr) (c : Nat) (l : List ByteArray) (hlen : l.length ≤ 1000000) (J : Nat → World → Prop) (W : World) (hc : W.heap[Bc]? = some (.cells #[.slice a l.length c] 22 (0, 0))) (ho1 : ob ≠ Bc)
    (hK : ∀ W', (∀ i, i < W.heap.size → i ≠ ob → W'.heap[i]? = W.heap[i]?) → StrR W' (.slice a l.length c) l) (h0 : J 0 W)
    (hY : ∀ j s W', l[l.length - 1 - j]? = some s → j < l.length → W.heap.size ≤ W'.heap.size → J j W' → YieldAt Fence.wide (n - 1) Tryz.prog lp #[.int .i64 ((l.length : Int) - 1 - (j : Int)), .string s] W' fun e W'' => e = .returned (.bool true) ∧ J (j + 1) W'' ∧ ChgS (fun i => i = ob ∨ W.heap.size ≤ i) W' W'') :
    CallsIn Fence.wide n Tryz.prog 173 #[.func (.yield lp) #[] #[], .pointer (some ⟨Bc, 0, none⟩)] W fun e W' => (∃ v, e = .returned v) ∧ J l.length W' := by
  have hcH := hide hc
  have hY := hide hY
  have hK := hide hK
  have cB : W.cell? ⟨Bc, 0, none⟩ = some (.slice a l.length c) := cellAt hc 0
  obtain ⟨m, hm⟩ : ∃ m, m = l.length := ⟨_, rfl⟩
  have hmH := hide hm
  rw [← hm] at hlen cB hY ⊢
  clear hc hm
  refine callsIn_of_wp Tryz.func173 rfl trivial ?_ rfl
  simp only [Tryz.ntmps173, List.size_toArray, List.length_cons, List.length_nil, Nat.reduceAdd, Nat.reduceSub, Array.replicate_succ, Array.replicate_zero, List.push_toArray, List.append_toArray, List.nil_append, List.cons_append]
  gi_wp2
  clear cB
  gi_loopw [3] (fun i wr => ∃ (j : Nat) (t : Int), i = .int .i64 t ∧ t = (m : Int) - 1 - (j : Int) ∧ j ≤ m ∧ Hid (J j wr ∧ ChgS (fun i => i = ob ∨ W.heap.size ≤ i) W wr)) (fun i _ => (intOf i + 1).toNat)
  case atStart => exact ⟨0, (m : Int) - 1, by go_num, by omega, Nat.zero_le _, ⟨h0, ChgS.refl _ _⟩⟩
  case round =>
    obtain ⟨j, t, rfl, ht, hj, hQ⟩ := hrel
    obtain ⟨wo, hwo⟩ : ∃ wo, wo = wr := ⟨_, rfl⟩
    subst hwo
    have htH := hide ht
    have hJ := hide hQ.out.1
    have hC := hide hQ.out.2
    clear hQ h0
    by_cases hjm : j < m
    · have t0 : (0 : Int) ≤ t := by omega
      have t1 : t < (m : Int) := by omega
      obtain ⟨q, hq⟩ : ∃ q : Nat, t = (q : Int) := ⟨m - 1 - j, by omega⟩
      have hqq : q = l.length - 1 - j := by rw [← hmH.out]; omega
      obtain ⟨s, hs⟩ : ∃ s, l[q]? = some s := ⟨_, List.getElem?_eq_getElem (by rw [← hmH.out]; omega)⟩
      have hold : ∀ i, i < W.heap.size → i ≠ ob → wo.heap[i]? = W.heap[i]? := fun i hi hne => hC.out.block i hi (by rintro (h | h) <;> omega)
      obtain ⟨g0, o0, c', e', hcell⟩ := strR_cell (W' := wo) (hK.out wo hold) hs
      cases e'
      have hc := hcell wo (Below.refl _ _)
      have cB := cellAt ((hold Bc (Array.getElem?_eq_some_iff.1 hcH.out).1 (Ne.symm ho1)).trans hcH.out) 0
      obtain ⟨fn, tmps, assign, body, hy, hR⟩ := hY.out j s wo (by rw [hqq] at hs; rw [hmH.out]; exact hs) hjm hC.out.size hJ.out
      have hRH := hide hR
      subst hq
      rw [← htH.out] at hy
      rw [← hmH.out] at cB
      have hq2 : q < m := by omega
      clear hs hold hcell hR hqq ht
      gi_wp2
      refine ⟨fun _ => by omega, hRH.out.mono ?_⟩
      rintro e W3 ⟨rfl, hJ3, hC3⟩
      have hQ3 := hide (show J (j + 1) W3 ∧ ChgS (fun i => i = ob ∨ W.heap.size ≤ i) W W3 from ⟨hJ3, hC.out.trans hC3⟩)
      clear hJ3 hC3 hRH
      gi_wp2
      go_roundw
      case rel => exact ⟨j + 1, (q : Int) - 1, by go_num, by have := htH.out; omega, by omega, hQ3⟩
      case measure => simp [intOf] <;> omega
    · obtain rfl : j = m := by omega
      have t0 : ¬ (0 : Int) ≤ t := by omega
      gi_wp2
      go_end0
      exact ⟨⟨_, rfl⟩, hJ.out⟩
end Go.Proofs.YtllbphanfahkkaaGreatDoor

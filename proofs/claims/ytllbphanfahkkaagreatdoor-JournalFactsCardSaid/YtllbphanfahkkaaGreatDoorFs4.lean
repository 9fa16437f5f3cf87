/-
  Package factset: all: the entries come in ascending order, whatever each round does.
-/
import Derived.Test.YtllbphanfahkkaaGreatDoorFs3
namespace Go.Proofs.YtllbphanfahkkaaGreatDoor
open Go.RowKit Go.Shelf Go.Sort RG
theorem sall_any (p : Option Addr) (w : World) : Calls Tryz.prog 153 #[.pointer p] w fun e w' => e = .returned (.func (.func 174) #[] #[.pointer (some ⟨w.heap.size, 0, none⟩)]) ∧ w' = w.alloc (.cells #[.pointer p] 157) := by
  go_enter Tryz.func153, Tryz.ntmps153
  go_wp2
  go_ret
  exact ⟨rfl, rfl⟩
theorem AscB_nodupF {C : RW.Ents} (h : RW.AscE C) : (C.map (·.1)).Nodup := RW.AscB.nodup h
attribute [local go_sem] Oper.semAt_some
/-- what the rounds of all keep -/
structure AllR (sb mb Bc ob N : Nat) (C : RW.Ents) (v : Value) (J : Nat → Nat → World → Prop) (W0 : World) (j : Nat) (W : World) : Prop where
  cell : W.heap[Bc]? = some (.cells #[.pointer (some ⟨sb, 0, none⟩)] 157 (0, 0))
  set : SetAt W sb mb C
  row : StrsOwn W (W0.heap.size + 1) v (C.map (·.1))
  inv : J N j W
  size : N ≤ W.heap.size
  chg : ChgS (fun i => i = ob ∨ W0.heap.size ≤ i) W0 W
set_option maxRecDepth 100000 in
set_option maxHeartbeats 4000000 in
theorem all1_in (n : Nat) (hn : 2 ≤ n) (sb mb : Nat) (C : RW.Ents) (hC : C.length ≤ 1000000) (Bc ob l : Nat) (J : Nat → Nat → World → Prop) (W : World) (hc : W.heap[Bc]? = some (.cells #[.pointer (some ⟨sb, 0, none⟩)] 157 (0, 0))) (hS : SetAt W sb mb C)
    (ho : ob < W.heap.size) (ho1 : ob ≠ Bc) (ho2 : ob ≠ sb) (ho3 : ob ≠ mb)
    (hJ0 : ∀ W', Below W.heap.size W W' → J W'.heap.size 0 W')
    (hJB : ∀ N j W1 W2, J N j W1 → Below W1.heap.size W1 W2 → J N j W2)
    (hY : ∀ N j k v W', W.heap.size ≤ N → C[j]? = some (k, v) → N ≤ W'.heap.size → J N j W' → YieldAt Fence.wide (n - 1) Tryz.prog l #[.string k, v] W' fun e W'' => e = .returned (.bool true) ∧ J N (j + 1) W'' ∧ ChgS (fun i => i = ob ∨ N ≤ i) W' W'') :
    CallsIn Fence.wide n Tryz.prog 174 #[.func (.yield l) #[] #[], .pointer (some ⟨Bc, 0, none⟩)] W fun e W' => (∃ v, e = .returned v) ∧ ∃ N, W.heap.size ≤ N ∧ J N C.length W' ∧ ChgS (fun i => i = ob ∨ W.heap.size ≤ i) W W' := by
  have hcH := hide hc
  have hSH := hide hS
  have hY := hide hY
  have hJ0 := hide hJ0
  have hJB := hide hJB
  have hoH := hide (And.intro ho (And.intro ho1 (And.intro ho2 ho3)))
  have cB : W.cell? ⟨Bc, 0, none⟩ = some (.pointer (some ⟨sb, 0, none⟩)) := cellAt hc 0
  have cS := hS.cell
  have hKy := hide (skeys_any mb W)
  have hSo := hide (ssorted_keys sb mb C W hS hC)
  obtain ⟨m, hm⟩ : ∃ m, m = C.length := ⟨_, rfl⟩
  have hmH := hide hm
  rw [← hm] at hC ⊢
  clear hc hS ho ho1 ho2 ho3 hm
  refine callsIn_of_wp Tryz.func174 rfl trivial ?_ rfl
  simp only [Tryz.ntmps174, List.size_toArray, List.length_cons, List.length_nil, Nat.reduceAdd, Nat.reduceSub, Array.replicate_succ, Array.replicate_zero, List.push_toArray, List.append_toArray, List.nil_append, List.cons_append]
  gi_wp2
  refine ⟨trivial, fun _ => by omega, ?_⟩
  refine (callsIn_wide.2 hKy.out).mono ?_
  rintro e w1 ⟨rfl, rfl⟩
  gi_wp2
  refine ⟨trivial, fun _ => by omega, ?_⟩
  refine (callsIn_wide.2 hSo.out).mono ?_
  rintro e w2 ⟨v, rfl, h3, h4⟩
  obtain ⟨ra, rc, ev⟩ := own_shape h3
  rw [List.length_map, ← hmH.out] at ev
  subst ev
  have hr2 := hide h3
  have hB2 := hide h4
  clear h3 h4 hKy hSo cS cB
  obtain ⟨N, hN⟩ : ∃ N, N = w2.heap.size := ⟨_, rfl⟩
  have hNH := hide hN
  have hNW := hide (show W.heap.size ≤ N by rw [hN]; exact hB2.out.size)
  have hI0 := hide (show AllR sb mb Bc ob N C (.slice ra m rc) J W 0 w2 from ⟨(hB2.out.block _ (Array.getElem?_eq_some_iff.1 hcH.out).1).trans hcH.out, hSH.out.next hB2.out, hr2.out, by rw [hN]; exact hJ0.out w2 hB2.out, Nat.le_of_eq hN, ChgS.of_belowF hB2.out⟩)
  have hcN := hide (show Bc < N ∧ sb < N ∧ mb < N by
    have h1 := (Array.getElem?_eq_some_iff.1 hcH.out).1
    have h2 := hSH.out.lt
    have h3 := hNW.out
    omega)
  have hgN := hide (show ∀ g, (Value.slice ra m rc).ownBlock = some g → W.heap.size + 1 ≤ g ∧ g < N from fun g hg => by
    have := own_blk hr2.out hg
    rw [hN]
    exact ⟨this.1, this.2.1⟩)
  clear hN hJ0 hSH hcH hr2
  gi_wp2
  gi_loopw [14] (fun i wr => ∃ j : Nat, i = .int .i64 j ∧ j ≤ m ∧ Hid (AllR sb mb Bc ob N C (.slice ra m rc) J W j wr)) (fun i _ => m - (intOf i).toNat)
  case atStart => exact ⟨0, rfl, Nat.zero_le _, hI0⟩
  case round =>
    obtain ⟨j, rfl, hj, hQ⟩ := hrel
    obtain ⟨wo, hwo⟩ : ∃ wo, wo = wr := ⟨_, rfl⟩
    subst hwo
    by_cases hjm : j < m
    · obtain ⟨x, hx⟩ : ∃ x, C[j]? = some x := ⟨_, List.getElem?_eq_getElem (by rw [← hmH.out]; exact hjm)⟩
      obtain ⟨k, u⟩ := x
      obtain ⟨g0, o0, rc', e', hcell⟩ := strR_cell (W' := wo) (by have h := strs_own hQ.out.row; rw [show (Value.slice ra m rc) = .slice ra (C.map (·.1)).length rc by rw [List.length_map, hmH.out]] at h; exact h) (show (C.map (·.1))[j]? = some k by rw [List.getElem?_map, hx]; rfl)
      cases e'
      have hc := hcell wo (Below.refl _ _)
      have cB := cellAt hQ.out.cell 0
      have cS := hQ.out.set.cell
      have lk := hQ.out.set.look1 k
      have hgk := hide (show KM.get k C = some u from KM.get_of_mem (AscB_nodupF hQ.out.set.asc) (List.mem_of_getElem? hx))
      rw [hgk.out] at lk
      have hx := hide hx
      obtain ⟨fn, tmps, assign, body, hy, hR⟩ := hY.out N j k u wo hNW.out hx.out hQ.out.size hQ.out.inv
      have hRH := hide hR
      clear hcell hR
      gi_wp2
      refine ⟨fun _ => by omega, hRH.out.mono ?_⟩
      rintro e W3 ⟨rfl, hJ3, hC3⟩
      have hQ3 := hide (show AllR sb mb Bc ob N C (.slice (some ⟨g0, o0, none⟩) m rc) J W (j + 1) W3 from by
        have hq := hQ.out
        have hlt := hNW.out
        have hb : ∀ i, i < N → i ≠ ob → W3.heap[i]? = wo.heap[i]? := fun i hi hne => hC3.block i (Nat.lt_of_lt_of_le hi hq.size) (by rintro (h | h) <;> omega)
        obtain ⟨h1, h2, h3, h4⟩ := hoH.out
        have hs := hq.set.lt
        have hrow : StrsOwn W3 (W.heap.size + 1) (.slice (some ⟨g0, o0, none⟩) m rc) (C.map (·.1)) := own_keep hq.row fun g hg => hb g (hgN.out g hg).2 (by have := (own_blk hq.row hg).1; omega)
        exact ⟨(hb _ hcN.out.1 (Ne.symm h2)).trans hq.cell, hq.set.keep (hb _ hcN.out.2.1 (Ne.symm h3)) (hb _ hcN.out.2.2 (Ne.symm h4)), hrow, hJ3, Nat.le_trans hq.size hC3.size, hq.chg.trans (hC3.impF fun i hi => hi.imp id fun h => Nat.le_trans hlt h)⟩)
      clear hJ3 hC3 hRH
      gi_wp2
      go_roundw
      case rel => exact ⟨j + 1, by go_num, by omega, hQ3⟩
      case measure => simp [intOf]; omega
    · obtain rfl : m = j := by omega
      gi_wp2
      go_end0
      exact ⟨⟨_, rfl⟩, N, hNW.out, hQ.out.inv, hQ.out.chg⟩
end Go.Proofs.YtllbphanfahkkaaGreatDoor

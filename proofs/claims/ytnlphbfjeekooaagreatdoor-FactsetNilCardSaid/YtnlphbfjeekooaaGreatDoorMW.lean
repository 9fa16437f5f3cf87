/-
  Package factset: the strings of a set in ascending order; all, IDs, Facts: what they return; only new memory is written.
-/
import Derived.Shelf.SlIter.Nil
import Derived.Test.YtnlphbfjeekooaaGreatDoorSortS
import Derived.Test.YtnlphbfjeekooaaGreatDoorMV
namespace Go.Proofs.YtnlphbfjeekooaaGreatDoor
open Go.RowKit Go.Shelf Go.Sort
attribute [local go_sem] Oper.semAt_some
set_option maxRecDepth 100000 in
set_option maxHeartbeats 1000000 in
/-- the keys come, each once -/
theorem skeys_gives (B Bm : Nat) (M : RW.Ents) (w : World) (hBm : Bm < w.heap.size) (hm : w.cell? ⟨Bm, 0, none⟩ = some (.map (some B))) (hown : KM.OwnM RW.strK w B M) (n : Nat) (hn : 1 ≤ n) :
    SeqGives Fence.wide n Tryz.prog 94 #[.pointer (some ⟨Bm, 0, none⟩)] encStr (fun ss => ss.Perm (RW.keyl M)) M.length w := by
  intro l J W hW hJ hY h0
  have hm' : W.cell? ⟨Bm, 0, none⟩ = some (.map (some B)) := (World.cell?_of_block (a := ⟨Bm, 0, none⟩) (hW.block _ hBm)).trans hm
  have hown' : KM.OwnM RW.strK W B M := hown.keep (hW.block _ hown.lt)
  obtain ⟨o, hr, hit⟩ := hown'.range (mt := 76) Tryz.underlying76
  have hnd := hown'.nodup
  have hJ0 : J [] (W.alloc o) := hJ [] W _ none h0 (World.grownBy_alloc _ _ _) (fun r e => by cases e)
  have hYH := hide hY
  have hJH := hide hJ
  have hitH := hide hit
  have hndH := hide hnd
  clear hY hJ hit hnd hm hown hown' hW hBm h0
  refine callsIn_of_wp Tryz.func94 rfl trivial ?_ rfl
  simp only [Tryz.ntmps94, List.size_toArray, List.length_cons, List.length_nil, Nat.reduceAdd, Nat.reduceSub, Array.replicate_succ, Array.replicate_zero, List.push_toArray, List.append_toArray, List.nil_append, List.cons_append]
  gi_wp2
  clear hr
  obtain ⟨it, hitE⟩ : ∃ it, it = W.heap.size := ⟨_, rfl⟩
  rw [← hitE] at hitH ⊢
  obtain ⟨W1, hW1⟩ : ∃ W1, W1 = W.alloc o := ⟨_, rfl⟩
  rw [← hW1] at hitH hJ0 ⊢
  have hitEH := hide hitE
  clear hW1 hitE
  gi_loopw [3] (fun _ wr => ∃ ss : List ByteArray, KM.IterM RW.strK wr B it M ss.reverse ∧ Hid (ss.Nodup ∧ ∀ k ∈ ss, k ∈ M.map (·.1)) ∧ J (ss.map fun x => x.data.toList) wr) (fun _ wr => KM.leftN wr B it)
  case atStart => exact ⟨[], hitH.out, ⟨List.nodup_nil, by simp⟩, hJ0⟩
  case round =>
    obtain ⟨ss, hI, hss, hJs⟩ := hrel
    have hne := hI.ne
    rcases hI.next (P := Tryz.prog) 0 with ⟨hall, hnx⟩ | ⟨x, hx, hxd, w2, hnx, hI2, hen, hlt, g1, g2, g3, g4, g5⟩
    · have hallH := hide hall
      clear hall
      gi_wp2
      go_end0
      refine ⟨⟨_, rfl⟩, ss.map fun x => x.data.toList, ?_, hJs⟩
      rw [show RW.keyl M = (M.map (·.1)).map fun x => x.data.toList by unfold RW.keyl; rw [List.map_map]; rfl]
      refine List.Perm.map _ ?_
      rw [List.perm_ext_iff_of_nodup hss.out.1 hndH.out]
      intro k
      refine ⟨hss.out.2 k, fun hk => ?_⟩
      obtain ⟨y, hy, rfl⟩ := List.mem_map.1 hk
      have := hallH.out y hy
      rwa [List.mem_reverse] at this
    · have hgrow : wr.grownBy w2 (some it) := ⟨g1, g2, g3, Nat.le_of_eq g4.symm, fun k _ hk => g5 k (fun e => hk (by rw [e]))⟩
      have hxs : x.1 ∉ ss := fun h => hxd (List.mem_reverse.2 h)
      have hss2 : (ss ++ [x.1]).Nodup ∧ ∀ k ∈ ss ++ [x.1], k ∈ M.map (·.1) := by
        refine ⟨?_, fun k hk => ?_⟩
        · rw [List.nodup_append]
          refine ⟨hss.out.1, by simp, ?_⟩
          intro a ha b hb hab
          rw [List.mem_singleton] at hb
          subst hb hab
          exact hxs ha
        · rcases List.mem_append.1 hk with hk | hk
          · exact hss.out.2 k hk
          · rw [List.mem_singleton] at hk
            subst hk
            exact List.mem_map.2 ⟨x, hx, rfl⟩
      have hlen : ss.length < M.length := by
        have := RW.nodup_len _ _ hss2.1 hss2.2
        simp at this
        omega
      have hJ2 : J (ss.map fun x => x.data.toList) w2 := hJH.out _ wr w2 (some it) hJs hgrow (fun r e => by
        cases e
        refine ⟨Nat.le_of_eq hitEH.out.symm, ?_⟩
        obtain ⟨_, _, _, _, _, _, _, _, _, a5, _⟩ := hI
        exact ⟨_, a5, rfl⟩)
      obtain ⟨fn, tmps, assign, body, hy, hR⟩ := hYH.out (ss.map fun x => x.data.toList) x.1.data.toList w2 hJ2 (by rw [List.length_map]; exact hlen)
      have he1 : encStr x.1.data.toList = .string x.1 := by show Value.string ⟨x.1.data.toList.toArray⟩ = _; simp
      rw [he1] at hy
      have hen' : (Instr.entry (.pointer (some ⟨it, 0, none⟩))).run Tryz.prog w2 = .ok (.tuple #[.string x.1, x.2]) w2 := hen
      have hss2H := hide hss2
      have hltH := hide hlt
      have hI2H := hide hI2
      have hIH := hide hI
      clear hss2 hlen hgrow hxs hx hxd hen g1 g2 g3 g4 g5 hlt hI2 hI
      gi_wp2
      refine hR.mono ?_
      rintro e W3 ⟨rfl, hJ3, hk3⟩
      gi_wp2
      have hb1 := hI2H.out
      obtain ⟨es, clock, since, seen, c0, b1, _, _, _, b5, _⟩ := hI2H.out
      have hI3 := hI2H.out.keep ((hk3.same _ _ b1 rfl).trans b1.symm) ((hk3.same _ _ b5 rfl).trans b5.symm)
      have hl3 := KM.leftN_keep ((hk3.same _ _ b1 rfl).trans b1.symm) ((hk3.same _ _ b5 rfl).trans b5.symm)
      go_roundw
      case rel => exact ⟨ss ++ [x.1], by rw [List.reverse_append]; exact hI3, hss2H.out, by rw [List.map_append]; exact hJ3⟩
      case measure => rw [hl3]; exact hltH.out
/-- slices.Sort's two contracts, at the fence that asks nothing -/
theorem ssorts_in (m : Nat) : AnyZ.SortsIn Tryz.prog SH.laysSortedS_ren Fence.wide m :=
  ⟨fun blk off cap ss W hH hblk hsz => callsIn_wide.2 (AnyM.slices_Sort_string SH.laysSortS blk off cap ss W hH hblk hsz),
   fun p cap W => callsIn_wide.2 (AnyM.slices_Sort_string_none SH.laysSortS p cap W)⟩
/-- maps.Keys -/
theorem skeys_any (B : Nat) (W : World) : Calls Tryz.prog 68 #[.map (some B)] W fun e w' => e = .returned (.func (.func 94) #[] #[.pointer (some ⟨W.heap.size, 0, none⟩)]) ∧ w' = W.alloc (.cells #[.map (some B)] 76) := by
  go_enter Tryz.func68, Tryz.ntmps68
  go_wp2
  go_ret
  exact ⟨rfl, rfl⟩
set_option maxRecDepth 100000 in
theorem ssorted_keys (sb mb : Nat) (C : RW.Ents) (W : World) (h : SetAt W sb mb C) (hC : C.length ≤ 1000000) :
    Calls Tryz.prog 67 #[.func (.func 94) #[] #[.pointer (some ⟨W.heap.size, 0, none⟩)]] (W.alloc (.cells #[.map (some mb)] 76)) fun e w' =>
      ∃ v : Value, e = .returned v ∧ StrsOwn w' (W.heap.size + 1) v (C.map (·.1)) ∧ Below W.heap.size W w' := by
  obtain ⟨M, hM, hCt⟩ := h.map
  have hseq := skeys_gives mb W.heap.size M (W.alloc (.cells #[.map (some mb)] 76)) (by simp) (cellAt (newAt rfl) 0) (hM.keep (Below.heap_alloc _ _ _ hM.lt)) 2 (by decide)
  have hl := hCt.len
  refine (callsIn_wide (n := 5)).1 ?_
  refine (AnyZ.sorted_in SH.laysSortedS Fence.wide 5 trivial trivial trivial trivial rfl (by omega) (ssorts_in _) (enters_of Tryz.func53 (by kernel_rfl) rfl) 94 #[.pointer (some ⟨W.heap.size, 0, none⟩)] trivial (enters_of Tryz.func94 (by kernel_rfl) rfl) _ M.length (by unfold maxLen; omega) (by omega) _ hseq).mono ?_
  rintro e w' ⟨v, ss, rfl, hp, hrow, _, hB⟩
  have hlen : ss.length = C.length := by
    have := hp.length_eq
    rw [this, ← hl]
    unfold RW.keyl
    rw [List.length_map]
  have e2 : (RW.keyl C).map encStr = (C.map (·.1)).map Value.string := by
    unfold RW.keyl
    rw [List.map_map, List.map_map]
    apply List.map_congr_left
    intro x _
    show Value.string ⟨x.1.data.toList.toArray⟩ = Value.string x.1
    simp
  rw [RW.sorted_cont hCt hp, e2, hlen] at hrow
  refine ⟨v, rfl, ?_, ((Below.refl _ W).alloc (Nat.le_refl _) _).trans (hB.mono (by simp))⟩
  rw [alloc_size] at hrow
  show w'.ownsRow (W.heap.size + 1) 9 1 v (C.map (·.1)).length _
  rw [List.length_map]
  exact hrow
end Go.Proofs.YtnlphbfjeekooaaGreatDoor

/-
  Package factset: all: the entries come in ascending order, whatever each round does.
-/
namespace Go.Proofs.YtnlphbfjeekooaaGreatDoor
open Go.RowKit Go.Shelf Go.Sort RG
theorem sall_any (p : Option Addr) (w : World) : Calls Tryz.prog 43 #[.pointer p] w fun e w' => e = .returned (.func (.func 66) #[] #[.pointer (some ⟨w.heap.size, 0, none⟩)]) ∧ w' = w.alloc (.cells #[.pointer p] 25) := by
  go_enter Tryz.func43, Tryz.ntmps43
  go_wp2
  go_ret
  exact ⟨rfl, rfl⟩
theorem AscB_nodupF {C : RW.Ents} (h : RW.AscE C) : (C.map (·.1)).Nodup := RW.AscB.nodup h
attribute [local go_sem] Oper.semAt_some
/-- what the rounds of all keep -/
structure AllR (sb mb Bc ob N : Nat) (C : RW.Ents) (v : Value) (J : Nat → Nat → World → Prop) (W0 : World) (j : Nat) (W : World) : Prop where
  cell : W.heap[Bc]? = some (.cells #[.pointer (some ⟨sb, 0, none⟩)] 25 (0, 0))
  set : SetAt W sb mb C
  row : StrsOwn W (W0.heap.size + 1) v (C.map (·.1))
  inv : J N j W
  size : N ≤ W.heap.size
  chg : ChgS (fun i => i = ob ∨ W0.heap.size ≤ i) W0 W
set_option maxRecDepth 100000 in
set_option maxHeartbeats 4000000 in
theorem all1_in (n : Nat) (hn : 2 ≤ n) (sb mb : Nat) (C : RW.Ents) (hC : C.length ≤ 1000000) (Bc ob l : Nat) (J : Nat → Nat → World → Prop) (W : World) (hc : W.heap[Bc]? = some (.cells #[.pointer (some ⟨sb, 0, none⟩)] 25 (0, 0))) (hS : SetAt W sb mb C)
    (ho : ob < W.heap.size) (ho1 : ob ≠ Bc) (ho2 : ob ≠ sb) (ho3 : ob ≠ mb)
    (hJ0 : ∀ W', Below W.heap.size W W' → J W'.heap.size 0 W')
    (hJB : ∀ N j W1 W2, J N j W1 → Below W1.heap.size W1 W2 → J N j W2)
    (hY : ∀ N j k v W', W.heap.size ≤ N → C[j]? = some (k, v) → N ≤ W'.heap.size → J N j W' → YieldAt Fence.wide (n - 1) Tryz.prog l #[.string k, v] W' fun e W'' => e = .returned (.bool true) ∧ J N (j + 1) W'' ∧ ChgS (fun i => i = ob ∨ N ≤ i) W' W'') :
    CallsIn Fence.wide n Tryz.prog 66 #[.func (.yield l) #[] #[], .pointer (some ⟨Bc, 0, none⟩)] W fun e W' => (∃ v, e = .returned v) ∧ ∃ N, W.heap.size ≤ N ∧ J N C.length W' ∧ ChgS (fun i => i = ob ∨ W.heap.size ≤ i) W W' := by
  have hcH := hide hc
  have hSH := hide hS
  have hY := hide hY
  have hJ0 := hide hJ0
  have hJB := hide hJB
  have hoH := hide (And.intro ho (And.intro ho1 (And.intro ho2 ho3)))
  have cB : W.cell? ⟨Bc, 0, none⟩ = some (.pointer (some ⟨sb, 0, none⟩)) := cellAt hc 0
  have cS := hS.cell
  have hKy := hide (skeys_any mb W)
  have hSo := hide (ssorted_keys sb mb C W hS hC)
  obtain ⟨m, hm⟩ : ∃ m, m = C.length := ⟨_, rfl⟩
  have hmH := hide hm
  rw [← hm] at hC ⊢
  clear hc hS ho ho1 ho2 ho3 hm
  refine callsIn_of_wp Tryz.func66 rfl trivial ?_ rfl
  simp only [Tryz.ntmps66, List.size_toArray, List.length_cons, List.length_nil, Nat.reduceAdd, Nat.reduceSub, Array.replicate_succ, Array.replicate_zero, List.push_toArray, List.append_toArray, List.nil_append, List.cons_append]
  gi_wp2
  refine ⟨trivial, fun _ => by omega, ?_⟩
  refine (callsIn_wide.2 hKy.out).mono ?_
  rintro e w1 ⟨rfl, rfl⟩
  gi_wp2
  refine ⟨trivial, fun _ => by omega, ?_⟩
  refine (callsIn_wide.2 hSo.out).mono ?_
  rintro e w2 ⟨v, rfl, h3, h4⟩
  obtain ⟨ra, rc, ev⟩ := own_shape h3
  rw [List.length_map, ← hmH.out] at ev
  subst ev
  have hr2 := hide h3
  have hB2 := hide h4
  clear h3 h4 hKy hSo cS cB
  obtain ⟨N, hN⟩ : ∃ N, N = w2.heap.size := ⟨_, rfl⟩
  have hNH := hide hN
  have hNW := hide (show W.heap.size ≤ N by rw [hN]; exact hB2.out.size)
  have hI0 := hide (show AllR sb mb Bc ob N C (.slice ra m rc) J W 0 w2 from ⟨(hB2.out.block _ (Array.getElem?_eq_some_iff.1 hcH.out).1).trans hcH.out, hSH.out.next hB2.out, hr2.out, by rw [hN]; exact hJ0.out w2 hB2.out, Nat.le_of_eq hN, ChgS.of_belowF hB2.out⟩)
  have hcN := hide (show Bc < N ∧ sb < N ∧ mb < N by
    have h1 := (Array.getElem?_eq_some_iff.1 hcH.out).1
    have h2 := hSH.out.lt
    have h3 := hNW.out
    omega)
  have hgN := hide (show ∀ g, (Value.slice ra m rc).ownBlock = some g → W.heap.size + 1 ≤ g ∧ g < N from fun g hg => by
    have := own_blk hr2.out hg
    rw [hN]
    exact ⟨this.1, this.2.1⟩)
  clear hN hJ0 hSH hcH hr2
  gi_wp2
  gi_loopw [14] (fun i wr => ∃ j : Nat, i = .int .i64 j ∧ j ≤ m ∧ Hid (AllR sb mb Bc ob N C (.slice ra m rc) J W j wr)) (fun i _ => m - (intOf i).toNat)
  case atStart => exact ⟨0, rfl, Nat.zero_le _, hI0⟩
  case round =>
    obtain ⟨j, rfl, hj, hQ⟩ := hrel
    obtain ⟨wo, hwo⟩ : ∃ wo, wo = wr := ⟨_, rfl⟩
    subst hwo
    by_cases hjm : j < m
    · obtain ⟨x, hx⟩ : ∃ x, C[j]? = some x := ⟨_, List.getElem?_eq_getElem (by rw [← hmH.out]; exact hjm)⟩
      obtain ⟨k, u⟩ := x
      obtain ⟨g0, o0, rc', e', hcell⟩ := strR_cell (W' := wo) (by have h := strs_own hQ.out.row; rw [show (Value.slice ra m rc) = .slice ra (C.map (·.1)).length rc by rw [List.length_map, hmH.out]] at h; exact h) (show (C.map (·.1))[j]? = some k by rw [List.getElem?_map, hx]; rfl)
      cases e'
      have hc := hcell wo (Below.refl _ _)
      have cB := cellAt hQ.out.cell 0
      have cS := hQ.out.set.cell
      have lk := hQ.out.set.look1 k
      have hgk := hide (show KM.get k C = some u from KM.get_of_mem (AscB_nodupF hQ.out.set.asc) (List.mem_of_getElem? hx))
      rw [hgk.out] at lk
      have hx := hide hx
      obtain ⟨fn, tmps, assign, body, hy, hR⟩ := hY.out N j k u wo hNW.out hx.out hQ.out.size hQ.out.inv
      have hRH := hide hR
      clear hcell hR
      gi_wp2
      refine ⟨fun _ => by omega, hRH.out.mono ?_⟩
      rintro e W3 ⟨rfl, hJ3, hC3⟩
      have hQ3 := hide (show AllR sb mb Bc ob N C (.slice (some ⟨g0, o0, none⟩) m rc) J W (j + 1) W3 from by
        have hq := hQ.out
        have hlt := hNW.out
        have hb : ∀ i, i < N → i ≠ ob → W3.heap[i]? = wo.heap[i]? := fun i hi hne => hC3.block i (Nat.lt_of_lt_of_le hi hq.size) (by rintro (h | h) <;> omega)
        obtain ⟨h1, h2, h3, h4⟩ := hoH.out
        have hs := hq.set.lt
        have hrow : StrsOwn W3 (W.heap.size + 1) (.slice (some ⟨g0, o0, none⟩) m rc) (C.map (·.1)) := own_keep hq.row fun g hg => hb g (hgN.out g hg).2 (by have := (own_blk hq.row hg).1; omega)
        exact ⟨(hb _ hcN.out.1 (Ne.symm h2)).trans hq.cell, hq.set.keep (hb _ hcN.out.2.1 (Ne.symm h3)) (hb _ hcN.out.2.2 (Ne.symm h4)), hrow, hJ3, Nat.le_trans hq.size hC3.size, hq.chg.trans (hC3.impF fun i hi => hi.imp id fun h => Nat.le_trans hlt h)⟩)
      clear hJ3 hC3 hRH
      gi_wp2
      go_roundw
      case rel => exact ⟨j + 1, by go_num, by omega, hQ3⟩
      case measure => simp [intOf]; omega
    · obtain rfl : m = j := by omega
      gi_wp2
      go_end0
      exact ⟨⟨_, rfl⟩, N, hNW.out, hQ.out.inv, hQ.out.chg⟩
end Go.Proofs.YtnlphbfjeekooaaGreatDoor

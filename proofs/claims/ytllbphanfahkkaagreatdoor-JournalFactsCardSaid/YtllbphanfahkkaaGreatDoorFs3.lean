/-
  Package factset: the strings of a set in ascending order; all, IDs, Facts: what they return; only new memory is written.
-/
import Derived.Shelf.SlIter.Nil
import Derived.Test.YtllbphanfahkkaaGreatDoorSortS
import Derived.Test.YtllbphanfahkkaaGreatDoorFs2
namespace Go.Proofs.YtllbphanfahkkaaGreatDoor
open Go.RowKit Go.Shelf Go.Sort
attribute [local go_sem] Oper.semAt_some
set_option maxRecDepth 100000 in
set_option maxHeartbeats 1000000 in
/-- the keys come, each once -/
theorem skeys_gives (B Bm : Nat) (M : RW.Ents) (w : World) (hBm : Bm < w.heap.size) (hm : w.cell? ⟨Bm, 0, none⟩ = some (.map (some B))) (hown : KM.OwnM RW.strK w B M) (n : Nat) (hn : 1 ≤ n) :
    SeqGives Fence.wide n Tryz.prog 193 #[.pointer (some ⟨Bm, 0, none⟩)] encStr (fun ss => ss.Perm (RW.keyl M)) M.length w := by
  intro l J W hW hJ hY h0
  have hm' : W.cell? ⟨Bm, 0, none⟩ = some (.map (some B)) := (World.cell?_of_block (a := ⟨Bm, 0, none⟩) (hW.block _ hBm)).trans hm
  have hown' : KM.OwnM RW.strK W B M := hown.keep (hW.block _ hown.lt)
  obtain ⟨o, hr, hit⟩ := hown'.range (mt := 189) Tryz.underlying189
  have hnd := hown'.nodup
  have hJ0 : J [] (W.alloc o) := hJ [] W _ none h0 (World.grownBy_alloc _ _ _) (fun r e => by cases e)
  have hYH := hide hY
  have hJH := hide hJ
  have hitH := hide hit
  have hndH := hide hnd
  clear hY hJ hit hnd hm hown hown' hW hBm h0
  refine callsIn_of_wp Tryz.func193 rfl trivial ?_ rfl
  simp only [Tryz.ntmps193, List.size_toArray, List.length_cons, List.length_nil, Nat.reduceAdd, Nat.reduceSub, Array.replicate_succ, Array.replicate_zero, List.push_toArray, List.append_toArray, List.nil_append, List.cons_append]
  gi_wp2
  clear hr
  obtain ⟨it, hitE⟩ : ∃ it, it = W.heap.size := ⟨_, rfl⟩
  rw [← hitE] at hitH ⊢
  obtain ⟨W1, hW1⟩ : ∃ W1, W1 = W.alloc o := ⟨_, rfl⟩
  rw [← hW1] at hitH hJ0 ⊢
  have hitEH := hide hitE
  clear hW1 hitE
  gi_loopw [3] (fun _ wr => ∃ ss : List ByteArray, KM.IterM RW.strK wr B it M ss.reverse ∧ Hid (ss.Nodup ∧ ∀ k ∈ ss, k ∈ M.map (·.1)) ∧ J (ss.map fun x => x.data.toList) wr) (fun _ wr => KM.leftN wr B it)
  case atStart => exact ⟨[], hitH.out, ⟨List.nodup_nil, by simp⟩, hJ0⟩
  case round =>
    obtain ⟨ss, hI, hss, hJs⟩ := hrel
    have hne := hI.ne
    rcases hI.next (P := Tryz.prog) 0 with ⟨hall, hnx⟩ | ⟨x, hx, hxd, w2, hnx, hI2, hen, hlt, g1, g2, g3, g4, g5⟩
    · have hallH := hide hall
      clear hall
      gi_wp2
      go_end0
      refine ⟨⟨_, rfl⟩, ss.map fun x => x.data.toList, ?_, hJs⟩
      rw [show RW.keyl M = (M.map (·.1)).map fun x => x.data.toList by unfold RW.keyl; rw [List.map_map]; rfl]
      refine List.Perm.map _ ?_
      rw [List.perm_ext_iff_of_nodup hss.out.1 hndH.out]
      intro k
      refine ⟨hss.out.2 k, fun hk => ?_⟩
      obtain ⟨y, hy, rfl⟩ := List.mem_map.1 hk
      have := hallH.out y hy
      rwa [List.mem_reverse] at this
    · have hgrow : wr.grownBy w2 (some it) := ⟨g1, g2, g3, Nat.le_of_eq g4.symm, fun k _ hk => g5 k (fun e => hk (by rw [e]))⟩
      have hxs : x.1 ∉ ss := fun h => hxd (List.mem_reverse.2 h)
      have hss2 : (ss ++ [x.1]).Nodup ∧ ∀ k ∈ ss ++ [x.1], k ∈ M.map (·.1) := by
        refine ⟨?_, fun k hk => ?_⟩
        · rw [List.nodup_append]
          refine ⟨hss.out.1, by simp, ?_⟩
          intro a ha b hb hab
          rw [List.mem_singleton] at hb
          subst hb hab
          exact hxs ha
        · rcases List.mem_append.1 hk with hk | hk
          · exact hss.out.2 k hk
          · rw [List.mem_singleton] at hk
            subst hk
            exact List.mem_map.2 ⟨x, hx, rfl⟩
      have hlen : ss.length < M.length := by
        have := RW.nodup_len _ _ hss2.1 hss2.2
        simp at this
        omega
      have hJ2 : J (ss.map fun x => x.data.toList) w2 := hJH.out _ wr w2 (some it) hJs hgrow (fun r e => by
        cases e
        refine ⟨Nat.le_of_eq hitEH.out.symm, ?_⟩
        obtain ⟨_, _, _, _, _, _, _, _, _, a5, _⟩ := hI
        exact ⟨_, a5, rfl⟩)
      obtain ⟨fn, tmps, assign, body, hy, hR⟩ := hYH.out (ss.map fun x => x.data.toList) x.1.data.toList w2 hJ2 (by rw [List.length_map]; exact hlen)
      have he1 : encStr x.1.data.toList = .string x.1 := by show Value.string ⟨x.1.data.toList.toArray⟩ = _; simp
      rw [he1] at hy
      have hen' : (Instr.entry (.pointer (some ⟨it, 0, none⟩))).run Tryz.prog w2 = .ok (.tuple #[.string x.1, x.2]) w2 := hen
      have hss2H := hide hss2
      have hltH := hide hlt
      have hI2H := hide hI2
      have hIH := hide hI
      clear hss2 hlen hgrow hxs hx hxd hen g1 g2 g3 g4 g5 hlt hI2 hI
      gi_wp2
      refine hR.mono ?_
      rintro e W3 ⟨rfl, hJ3, hk3⟩
      gi_wp2
      have hb1 := hI2H.out
      obtain ⟨es, clock, since, seen, c0, b1, _, _, _, b5, _⟩ := hI2H.out
      have hI3 := hI2H.out.keep ((hk3.same _ _ b1 rfl).trans b1.symm) ((hk3.same _ _ b5 rfl).trans b5.symm)
      have hl3 := KM.leftN_keep ((hk3.same _ _ b1 rfl).trans b1.symm) ((hk3.same _ _ b5 rfl).trans b5.symm)
      go_roundw
      case rel => exact ⟨ss ++ [x.1], by rw [List.reverse_append]; exact hI3, hss2H.out, by rw [List.map_append]; exact hJ3⟩
      case measure => rw [hl3]; exact hltH.out
/-- slices.Sort's two contracts, at the fence that asks nothing -/
theorem ssorts_in (m : Nat) : AnyZ.SortsIn Tryz.prog SH.laysSortedS_ren Fence.wide m :=
  ⟨fun blk off cap ss W hH hblk hsz => callsIn_wide.2 (AnyM.slices_Sort_string SH.laysSortS blk off cap ss W hH hblk hsz),
   fun p cap W => callsIn_wide.2 (AnyM.slices_Sort_string_none SH.laysSortS p cap W)⟩
/-- maps.Keys -/
theorem skeys_any (B : Nat) (W : World) : Calls Tryz.prog 176 #[.map (some B)] W fun e w' => e = .returned (.func (.func 193) #[] #[.pointer (some ⟨W.heap.size, 0, none⟩)]) ∧ w' = W.alloc (.cells #[.map (some B)] 189) := by
  go_enter Tryz.func176, Tryz.ntmps176
  go_wp2
  go_ret
  exact ⟨rfl, rfl⟩
set_option maxRecDepth 100000 in
theorem ssorted_keys (sb mb : Nat) (C : RW.Ents) (W : World) (h : SetAt W sb mb C) (hC : C.length ≤ 1000000) :
    Calls Tryz.prog 175 #[.func (.func 193) #[] #[.pointer (some ⟨W.heap.size, 0, none⟩)]] (W.alloc (.cells #[.map (some mb)] 189)) fun e w' =>
      ∃ v : Value, e = .returned v ∧ StrsOwn w' (W.heap.size + 1) v (C.map (·.1)) ∧ Below W.heap.size W w' := by
  obtain ⟨M, hM, hCt⟩ := h.map
  have hseq := skeys_gives mb W.heap.size M (W.alloc (.cells #[.map (some mb)] 189)) (by simp) (cellAt (newAt rfl) 0) (hM.keep (Below.heap_alloc _ _ _ hM.lt)) 2 (by decide)
  have hl := hCt.len
  refine (callsIn_wide (n := 5)).1 ?_
  refine (AnyZ.sorted_in SH.laysSortedS Fence.wide 5 trivial trivial trivial trivial rfl (by omega) (ssorts_in _) (enters_of Tryz.func192 (by kernel_rfl) rfl) 193 #[.pointer (some ⟨W.heap.size, 0, none⟩)] trivial (enters_of Tryz.func193 (by kernel_rfl) rfl) _ M.length (by unfold maxLen; omega) (by omega) _ hseq).mono ?_
  rintro e w' ⟨v, ss, rfl, hp, hrow, _, hB⟩
  have hlen : ss.length = C.length := by
    have := hp.length_eq
    rw [this, ← hl]
    unfold RW.keyl
    rw [List.length_map]
  have e2 : (RW.keyl C).map encStr = (C.map (·.1)).map Value.string := by
    unfold RW.keyl
    rw [List.map_map, List.map_map]
    apply List.map_congr_left
    intro x _
    show Value.string ⟨x.1.data.toList.toArray⟩ = Value.string x.1
    simp
  rw [RW.sorted_cont hCt hp, e2, hlen] at hrow
  refine ⟨v, rfl, ?_, ((Below.refl _ W).alloc (Nat.le_refl _) _).trans (hB.mono (by simp))⟩
  rw [alloc_size] at hrow
  show w'.ownsRow (W.heap.size + 1) 9 1 v (C.map (·.1)).length _
  rw [List.length_map]
  exact hrow
end Go.Proofs.YtllbphanfahkkaaGreatDoor

/-
  slices.Sorted(maps.Keys(m)) at a map of the call's own with whole numbers as keys: the keys in ascending order; only new memory is written.
-/
import Derived.Shelf.SlIterI.Nil
import Derived.Test.YtnkdpfkmellpcaaKkey
import Derived.Test.YtnkdpfkmellpcaaSort
import Derived.Test.YtnkdpfkmellpcaaSb2
namespace Go.Proofs.Ytnkdpfkmellpcaa
open Go.RowKit Go.Shelf
attribute [local go_sem] Oper.semAt_some
namespace RW
abbrev intK : Int → Value := fun z => .int .i64 z
theorem nodup_le {α : Type} [DecidableEq α] : ∀ (l m : List α), l.Nodup → (∀ x ∈ l, x ∈ m) → l.length ≤ m.length
  | [], _, _, _ => Nat.zero_le _
  | x :: l, m, hn, hs => by
    rw [List.nodup_cons] at hn
    have h1 := nodup_le l (m.erase x) hn.2 fun y hy => (List.mem_erase_of_ne (by rintro rfl; exact hn.1 hy)).2 (hs y (List.mem_cons_of_mem _ hy))
    rw [List.length_erase_of_mem (hs x (List.mem_cons_self ..))] at h1
    have := List.length_pos_of_mem (hs x (List.mem_cons_self ..))
    rw [List.length_cons]
    omega
end RW
set_option maxRecDepth 100000 in
set_option maxHeartbeats 1000000 in
/-- the keys come, each once -/
theorem keys_gives (B Bm : Nat) (M : List (Int × Value)) (w : World) (hBm : Bm < w.heap.size) (hm : w.cell? ⟨Bm, 0, none⟩ = some (.map (some B))) (hown : KM.OwnM RW.intK w B M) (n : Nat) (hn : 1 ≤ n) :
    SeqGives Fence.wide n Try.prog 39 #[.pointer (some ⟨Bm, 0, none⟩)] encZ (fun ss => ss.Perm (M.map (·.1))) M.length w := by
  intro l J W hW hJ hY h0
  have hm' : W.cell? ⟨Bm, 0, none⟩ = some (.map (some B)) := (World.cell?_of_block (a := ⟨Bm, 0, none⟩) (hW.block _ hBm)).trans hm
  have hown' : KM.OwnM RW.intK W B M := hown.keep (hW.block _ hown.lt)
  obtain ⟨o, hr, hit⟩ := hown'.range (mt := 54) Try.underlying54
  have hnd := hown'.nodup
  have hJ0 : J [] (W.alloc o) := hJ [] W _ none h0 (World.grownBy_alloc _ _ _) (fun r e => by cases e)
  have hYH := hide hY
  have hJH := hide hJ
  have hitH := hide hit
  have hndH := hide hnd
  clear hY hJ hit hnd hm hown hown' hW hBm h0
  refine callsIn_of_wp Try.func39 rfl trivial ?_ rfl
  simp only [Try.ntmps39, List.size_toArray, List.length_cons, List.length_nil, Nat.reduceAdd, Nat.reduceSub, Array.replicate_succ, Array.replicate_zero, List.push_toArray, List.append_toArray, List.nil_append, List.cons_append]
  gi_wp2
  clear hr
  obtain ⟨it, hitE⟩ : ∃ it, it = W.heap.size := ⟨_, rfl⟩
  rw [← hitE] at hitH ⊢
  obtain ⟨W1, hW1⟩ : ∃ W1, W1 = W.alloc o := ⟨_, rfl⟩
  rw [← hW1] at hitH hJ0 ⊢
  have hitEH := hide hitE
  clear hW1 hitE
  gi_loopw [3] (fun _ wr => ∃ ss : List Int, KM.IterM RW.intK wr B it M ss.reverse ∧ Hid (ss.Nodup ∧ ∀ k ∈ ss, k ∈ M.map (·.1)) ∧ J ss wr) (fun _ wr => KM.leftN wr B it)
  case atStart => exact ⟨[], hitH.out, ⟨List.nodup_nil, by simp⟩, hJ0⟩
  case round =>
    obtain ⟨ss, hI, hss, hJs⟩ := hrel
    have hne := hI.ne
    rcases hI.next (P := Try.prog) 0 with ⟨hall, hnx⟩ | ⟨x, hx, hxd, w2, hnx, hI2, hen, hlt, g1, g2, g3, g4, g5⟩
    · have hallH := hide hall
      clear hall
      gi_wp2
      go_end0
      refine ⟨⟨_, rfl⟩, ss, ?_, hJs⟩
      rw [List.perm_ext_iff_of_nodup hss.out.1 hndH.out]
      intro k
      refine ⟨hss.out.2 k, fun hk => ?_⟩
      obtain ⟨y, hy, rfl⟩ := List.mem_map.1 hk
      have := hallH.out y hy
      rwa [List.mem_reverse] at this
    · have hgrow : wr.grownBy w2 (some it) := ⟨g1, g2, g3, Nat.le_of_eq g4.symm, fun k _ hk => g5 k (fun e => hk (by rw [e]))⟩
      have hxs : x.1 ∉ ss := fun h => hxd (List.mem_reverse.2 h)
      have hss2 : (ss ++ [x.1]).Nodup ∧ ∀ k ∈ ss ++ [x.1], k ∈ M.map (·.1) := by
        refine ⟨?_, fun k hk => ?_⟩
        · rw [List.nodup_append]
          refine ⟨hss.out.1, by simp, ?_⟩
          intro a ha b hb hab
          rw [List.mem_singleton] at hb
          subst hb hab
          exact hxs ha
        · rcases List.mem_append.1 hk with hk | hk
          · exact hss.out.2 k hk
          · rw [List.mem_singleton] at hk
            subst hk
            exact List.mem_map.2 ⟨x, hx, rfl⟩
      have hlen : ss.length < M.length := by
        have := RW.nodup_le _ _ hss2.1 hss2.2
        simp at this
        omega
      have hJ2 : J ss w2 := hJH.out ss wr w2 (some it) hJs hgrow (fun r e => by
        cases e
        refine ⟨Nat.le_of_eq hitEH.out.symm, ?_⟩
        obtain ⟨_, _, _, _, _, _, _, _, _, a5, _⟩ := hI
        exact ⟨_, a5, rfl⟩)
      obtain ⟨fn, tmps, assign, body, hy, hR⟩ := hYH.out ss x.1 w2 hJ2 hlen
      have hen' : (Instr.entry (.pointer (some ⟨it, 0, none⟩))).run Try.prog w2 = .ok (.tuple #[.int .i64 x.1, x.2]) w2 := hen
      have hss2H := hide hss2
      have hltH := hide hlt
      have hI2H := hide hI2
      have hIH := hide hI
      clear hss2 hlen hgrow hxs hx hxd hen g1 g2 g3 g4 g5 hlt hI2 hI
      gi_wp2
      refine hR.mono ?_
      rintro e W3 ⟨rfl, hJ3, hk3⟩
      gi_wp2
      have hb1 := hI2H.out
      obtain ⟨es, clock, since, seen, c0, b1, _, _, _, b5, _⟩ := hI2H.out
      have hI3 := hI2H.out.keep ((hk3.same _ _ b1 rfl).trans b1.symm) ((hk3.same _ _ b5 rfl).trans b5.symm)
      have hl3 := KM.leftN_keep ((hk3.same _ _ b1 rfl).trans b1.symm) ((hk3.same _ _ b5 rfl).trans b5.symm)
      go_roundw
      case rel => exact ⟨ss ++ [x.1], by rw [List.reverse_append]; exact hI3, hss2H.out, hJ3⟩
      case measure => rw [hl3]; exact hltH.out
/-- slices.Sort's two contracts, at the fence that asks nothing -/
theorem sorts_in (m : Nat) : AnyZI.SortsIn Try.prog SH.laysSorted_ren Fence.wide m :=
  ⟨fun blk off cap ss W hH hblk hsz => callsIn_wide.2 (AnyM.slices_Sort_int SH.laysSort blk off cap ss W hH hblk hsz),
   fun p cap W => callsIn_wide.2 (AnyM.slices_Sort_int_none SH.laysSort p cap W)⟩
/-- maps.Keys -/
theorem keys_any (B : Nat) (W : World) : Calls Try.prog 30 #[.map (some B)] W fun e w' => e = .returned (.func (.func 39) #[] #[.pointer (some ⟨W.heap.size, 0, none⟩)]) ∧ w' = W.alloc (.cells #[.map (some B)] 54) := by
  go_enter Try.func30, Try.ntmps30
  go_wp2
  go_ret
  exact ⟨rfl, rfl⟩
theorem intCells : ∀ l : List Int, rowCells (fun z => [Value.int .i64 z]) l = l.map encZ
  | [] => rfl
  | x :: l => by
    have := intCells l
    unfold rowCells at this ⊢
    rw [List.flatMap_cons, this]
    rfl
theorem ints_own {W : World} {B : Nat} {v : Value} {k : Nat} {l : List Int} (h : W.ownsRow B 3 1 v k (l.map encZ)) : RowV 1 (fun z => [Value.int .i64 z]) W v l := by
  refine rowV_own (B := B) (e := 3) (n := k) (fun _ => rfl) (by decide) ?_
  rw [intCells]
  exact h
set_option maxRecDepth 100000 in
theorem sorted_keys (B : Nat) (M : List (Int × Value)) (W : World) (h : KM.OwnM RW.intK W B M) (hM : M.length ≤ 1000000) :
    Calls Try.prog 29 #[.func (.func 39) #[] #[.pointer (some ⟨W.heap.size, 0, none⟩)]] (W.alloc (.cells #[.map (some B)] 54)) fun e w' =>
      ∃ (v : Value) (zs : List Int), e = .returned v ∧ zs.Perm (M.map (·.1)) ∧ zs.Pairwise (· ≤ ·) ∧ RowV 1 (fun z => [Value.int .i64 z]) w' v zs ∧ Below W.heap.size W w' := by
  have hseq := keys_gives B W.heap.size M (W.alloc (.cells #[.map (some B)] 54)) (by simp) (cellAt (newAt rfl) 0) (h.keep (Below.heap_alloc _ _ _ h.lt)) 2 (by decide)
  refine (callsIn_wide (n := 5)).1 ?_
  refine (AnyZI.sorted_in SH.laysSorted Fence.wide 5 trivial trivial trivial trivial rfl (by omega) (sorts_in _) (enters_of Try.func38 (by kernel_rfl) rfl) 39 #[.pointer (some ⟨W.heap.size, 0, none⟩)] trivial (enters_of Try.func39 (by kernel_rfl) rfl) _ M.length (by unfold maxLen; omega) (by omega) _ hseq).mono ?_
  rintro e w' ⟨v, ss, rfl, hp, hrow, _, hB⟩
  refine ⟨v, ss.mergeSort (fun x y => decide (x ≤ y)), rfl, (List.mergeSort_perm _ _).trans hp, ?_, ints_own hrow, ((Below.refl _ W).alloc (Nat.le_refl _) _).trans (hB.mono (by simp))⟩
  have := List.pairwise_mergeSort (le := fun x y : Int => decide (x ≤ y)) (by intro a b c h1 h2; simp at *; omega) (by intro a b; simp; omega) ss
  exact this.imp (by intro a b h; simpa using h)
end Go.Proofs.Ytnkdpfkmellpcaa

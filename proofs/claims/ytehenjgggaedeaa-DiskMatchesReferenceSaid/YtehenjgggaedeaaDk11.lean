/-
  Package royaltylaw22: fits, put: what they return, what they change.
-/
import Derived.Test.YtehenjgggaedeaaDk10
namespace Go.Proofs.Ytehenjgggaedeaa
open Go.RowKit
namespace RW
/-- a write and whether a Sync follows -/
abbrev Wp := Int × ByteArray × Bool
def wpl (x : Wp) : List Value := [.int .i64 x.1, .string x.2.1, .bool x.2.2]
def fitO (n : Nat) (x : Wp) : Nat := (pickI x.1 ((n : Int) + 1)).toNat
def fitS (n : Nat) (x : Wp) : ByteArray := x.2.1.extract 0 (min x.2.1.size (n - fitO n x))
def fitL (n : Nat) (x : Wp) : List Value := [.int .i64 (fitO n x : Int), .string (fitS n x), .bool x.2.2]
theorem fit_le (n : Nat) (x : Wp) : fitO n x + (fitS n x).size ≤ n := by
  have h := pickI_bd x.1 ((n : Int) + 1) (by omega)
  have h1 : fitO n x ≤ n := by unfold fitO; omega
  rw [fitS, ByteArray.size_extract]
  omega
theorem fit_ins (n : Nat) (x : Wp) : insB n (fitO n x : Int) ((fitS n x).size : Int) = true := by
  have := fit_le n x
  exact (insB_iff _ _ _).2 ⟨by omega, by omega, by omega, by omega⟩
theorem splice_get {α : Type} (L : List α) (o : Nat) (cs : List α) (h : o + cs.length ≤ L.length) (i : Nat) : (Go.splice L o cs)[i]? = if i < o then L[i]? else if i < o + cs.length then cs[i - o]? else L[i]? := by
  unfold Go.splice
  by_cases h1 : i < o
  · rw [if_pos h1, List.getElem?_append_left (by rw [List.length_take]; omega), List.getElem?_take, if_pos h1]
  · rw [if_neg h1, List.getElem?_append_right (by rw [List.length_take]; omega), List.length_take, Nat.min_eq_left (by omega)]
    by_cases h2 : i < o + cs.length
    · rw [if_pos h2, List.getElem?_append_left (by omega)]
    · rw [if_neg h2, List.getElem?_append_right (by omega), List.getElem?_drop]
      congr 1
      omega
theorem lay_snoc {l : List UInt8} {o : Nat} {s : List UInt8} {x : UInt8} (h : o + s.length < l.length) : lay l o (s ++ [x]) = (lay l o s).set (o + s.length) x := by
  apply List.ext_getElem?
  intro i
  have hl : (lay l o s).length = l.length := lay_len (by omega)
  rw [lay, splice_get _ _ _ (by rw [List.length_append]; simp; omega), List.getElem?_set, hl, lay, splice_get _ _ _ (by omega), List.length_append]
  simp only [List.length_singleton]
  by_cases h1 : i < o
  · rw [if_pos h1, if_neg (by omega), if_pos h1]
  · rw [if_neg h1]
    by_cases h2 : o + s.length = i
    · rw [if_pos (by omega), if_pos h2, if_pos (by omega), List.getElem?_append_right (by omega)]
      rw [show i - o - s.length = 0 by omega]
      rfl
    · rw [if_neg h2, if_neg h1]
      by_cases h3 : i < o + s.length
      · rw [if_pos (by omega), if_pos h3, List.getElem?_append_left (by omega)]
      · rw [if_neg (by omega), if_neg h3]
theorem lay_nil (l : List UInt8) (o : Nat) : lay l o [] = l := by simp [lay, Go.splice]
theorem byl_set (l : List UInt8) (k : Nat) (u : UInt8) : (byl l).toArray.setIfInBounds k (.int .u8 (u.toNat : Int)) = (byl (l.set k u)).toArray := by
  rw [List.setIfInBounds_toArray]
  congr 1
  simp [byl, List.map_set]
end RW
theorem wp_size (x : RW.Wp) : (Try.prog.info? 53).map (·.size) = some (RW.wpl x).length := by kernel_rfl
theorem fit_size (n : Nat) (x : RW.Wp) : (Try.prog.info? 53).map (·.size) = some (RW.fitL n x).toArray.size := by kernel_rfl
theorem fit_one (n : Nat) (x : RW.Wp) : (RW.fitL n x).toArray.all (·.oneCell') = true := by
  simp [RW.fitL]
  exact ⟨rfl, rfl, rfl⟩
theorem ldRow_wp (x : Value) : Instr.loadAt 53 x = ldRow 53 x := rfl
set_option maxRecDepth 10000 in
set_option maxHeartbeats 2000000 in
theorem fits_any (n : Nat) (hn : n ≤ 1000000) (x : RW.Wp) (hx : -9223372036854775808 ≤ x.1) (hx2 : x.1 ≤ 9223372036854775807) (hs : x.2.1.size ≤ 9223372036854775807) (w : World) :
    Calls Try.prog 26 #[.agg (RW.wpl x).toArray, .int .i64 (n : Int)] w fun e w' => e = .returned (.agg (RW.fitL n x).toArray) ∧ Below w.heap.size w w' := by
  have hP := hide (fun W => pick_any x.1 ((n : Int) + 1) hx hx2 (by omega) (by omega) W)
  have hpb := RW.pickI_bd x.1 ((n : Int) + 1) (by omega)
  have hfo : (RW.fitO n x : Int) = RW.pickI x.1 ((n : Int) + 1) := by unfold RW.fitO; omega
  rw [← hfo] at hP
  have hfl : RW.fitO n x ≤ n := by omega
  have hC := hide (fun W => cutS_any x.2.1 (n - RW.fitO n x) hs (by omega) W)
  rw [show x.2.1.extract 0 (min x.2.1.size (n - RW.fitO n x)) = RW.fitS n x from rfl] at hC
  obtain ⟨o, ho⟩ : ∃ o, o = RW.fitO n x := ⟨_, rfl⟩
  obtain ⟨s, hsd⟩ : ∃ s, s = RW.fitS n x := ⟨_, rfl⟩
  have hfL := hide (show RW.fitL n x = [.int .i64 (o : Int), .string s, .bool x.2.2] by rw [RW.fitL, ho, hsd])
  rw [← ho, ← hsd] at hC
  rw [← ho] at hP hfl
  have hsub : (n : Int) - (o : Int) = ((n - o : Nat) : Int) := by omega
  obtain ⟨rb, hrb⟩ : ∃ b, b = w.heap.size := ⟨_, rfl⟩
  obtain ⟨rc, hrc⟩ : ∃ b, b = rb + 1 := ⟨_, rfl⟩
  obtain ⟨W0, hW0⟩ : ∃ W, W = (w.alloc (.cells (RW.wpl x).toArray 53)).alloc (.cells #[.int .i64 0, .string ⟨#[]⟩, .bool false] 53) := ⟨_, rfl⟩
  have h0 := hide (show W0.heap[rb]? = some (.cells (RW.wpl x).toArray 53 (0, 0)) by rw [hW0]; exact (Below.heap_alloc _ _ _ (by simp; omega)).trans (newAt hrb))
  have h1 := hide (show W0.heap[rc]? = some (.cells #[.int .i64 0, .string ⟨#[]⟩, .bool false] 53 (0, 0)) by rw [hW0]; exact newAt (by simp; omega))
  have hB0 := hide (show Below rb w W0 by rw [hW0, hrb]; exact ((Below.refl _ w).alloc (Nat.le_refl _) _).alloc (by simp) _)
  have hW0H := hide hW0
  have hrbH := hide hrb
  have hrcH := hide hrc
  clear hfo hpb hx hx2 ho hsd hs hW0 hrb hrc
  go_enter Try.func26, Try.ntmps26
  go_upto_region 1 with fail
  rw [← hrbH.out, ← hrcH.out]
  refine gen_w (fun W => W.heap[rb]? = some (.cells (RW.wpl x).toArray 53 (0, 0)) ∧ W.heap[rc]? = some (.cells #[.int .i64 0, .string ⟨#[]⟩, .bool false] 53 (0, 0)) ∧ Below rb w W) ⟨by rw [← hW0H.out]; exact h0.out, by rw [← hW0H.out]; exact h1.out, by rw [← hW0H.out]; exact hB0.out⟩ ?_
  clear h0 h1 hB0 hW0H
  rintro w1 ⟨g1, g2, g3⟩
  have c0 : w1.cell? ⟨rb, 0, none⟩ = some (.int .i64 x.1) := cellAt g1 0
  have f0 : w1.frozen? ⟨rb, 0, none⟩ = false := by simp [World.frozen?, g1]
  have hne := hide (show rb ≠ rc by have := hrcH.out; omega)
  have h1 := hide g1
  have h2 := hide g2
  have h3 := hide g3
  clear g1 g2 g3
  go_upto_region 2 with (go_at_call 15; refine (hP.out _).mono ?_; rintro e w' ⟨rfl, rfl⟩)
  refine gen_w (fun W => W.heap[rb]? = some (.cells #[.int .i64 (o : Int), .string x.2.1, .bool x.2.2] 53 (0, 0)) ∧ W.heap[rc]? = some (.cells #[.int .i64 0, .string ⟨#[]⟩, .bool false] 53 (0, 0)) ∧ Below rb w W) ⟨(heap_setCell_same _ _ _ _ _ _ h1.out).trans rfl, (Below.heap_setCell _ _ _ _ (Ne.symm hne.out)).trans h2.out, h3.out.setCell (p := ⟨rb, 0, none⟩) (Nat.le_refl _) _⟩ ?_
  clear h1 h2 h3 c0 f0
  rintro w2 ⟨g1, g2, g3⟩
  have c0 : w2.cell? ⟨rb, 0, none⟩ = some (.int .i64 (o : Int)) := cellAt g1 0
  have c1 : w2.cell? ⟨rb, 1, none⟩ = some (.string x.2.1) := cellAt g1 1
  have f1 : w2.frozen? ⟨rb, 1, none⟩ = false := by simp [World.frozen?, g1]
  have h1 := hide g1
  have h2 := hide g2
  have h3 := hide g3
  clear g1 g2 g3
  go_upto_region 3 with (go_at_call 22; refine (hC.out _).mono ?_; rintro e w' ⟨rfl, rfl⟩)
  refine gen_w (fun W => W.heap[rb]? = some (.cells (RW.fitL n x).toArray 53 (0, 0)) ∧ W.heap[rc]? = some (.cells #[.int .i64 0, .string ⟨#[]⟩, .bool false] 53 (0, 0)) ∧ Below rb w W) ⟨by rw [hfL.out]; exact (heap_setCell_same _ _ _ _ _ _ h1.out).trans rfl, (Below.heap_setCell _ _ _ _ (Ne.symm hne.out)).trans h2.out, h3.out.setCell (p := ⟨rb, 1, none⟩) (Nat.le_refl _) _⟩ ?_
  clear h1 h2 h3 c0 c1 f1
  rintro w3 ⟨g1, g2, g3⟩
  have hi := fit_size n x
  have h2 := hide g2
  have h3 := hide g3
  clear g3
  go_wp2_with (first
    | (refine wpList_load_row rfl 53 (.tmp 2) rfl rb rfl 53 _ (0, 0) _ g1 Try.underlying53 rfl hi ?_)
    | (refine wpList_store_row rfl 53 (.tmp 4) (.tmp 19) rfl rc (RW.fitL n x).toArray rfl rfl 53 _ g2 hi rfl (fit_one n x) ?_))
  refine bodyPost_ret (results_cell_row rfl _ _ rc 53 (RW.fitL n x).toArray (0, 0) _ rfl (setRow_heap _ _ _ _ _ _ h2.out) Try.underlying53 rfl hi) rfl ⟨rfl, ?_⟩
  rw [← hrbH.out]
  exact belowSetRow h3.out (by rw [hrcH.out]; exact Nat.le_succ _) _
set_option maxRecDepth 10000 in
set_option maxHeartbeats 2000000 in
theorem put_any (g n : Nat) (l : List UInt8) (o : Nat) (s : ByteArray) (hn : n ≤ 4194304) (hl : l.length = n) (ho : o + s.size ≤ n) (w : World) (hg : w.heap[g]? = some (.cells (RW.byl l).toArray 5 (0, 0))) :
    Calls Try.prog 27 #[.slice (some ⟨g, 0, none⟩) n n, .int .i64 (o : Int), .string s] w fun e w' => (∃ v, e = .returned v) ∧ w'.heap[g]? = some (.cells (RW.byl (RW.lay l o s.data.toList)).toArray 5 (0, 0)) ∧ Chg g w w' := by
  obtain ⟨m, hm⟩ : ∃ m, m = s.size := ⟨_, rfl⟩
  have hmH := hide hm
  have hlH := hide hl
  have hgH := hide hg
  have hsl := hide (show s.data.toList.length = m by rw [hm, Array.length_toList]; rfl)
  rw [← hm] at ho
  clear hm hl hg
  go_enter Try.func27, Try.ntmps27
  go_wp2
  go_loopw [6] (fun i wr => ∃ j : Nat, i = .int .i64 j ∧ j ≤ m ∧ Hid (wr.heap[g]? = some (.cells (RW.byl (RW.lay l o (s.data.toList.take j))).toArray 5 (0, 0)) ∧ Chg g w wr)) (fun i _ => m - (intOf i).toNat)
  case atStart => exact ⟨0, rfl, Nat.zero_le _, by rw [List.take_zero, RW.lay_nil]; exact hgH.out, Chg.refl _ _⟩
  case round =>
    obtain ⟨j, rfl, hjm, hQ⟩ := hrel
    have hsz : s.size = m := hmH.out.symm
    by_cases hlt : j < m
    · have hjs : j < s.data.toList.length := by rw [hsl.out]; exact hlt
      have htk := hide (show s.data.toList.take (j + 1) = s.data.toList.take j ++ [s.data.toList[j]] by rw [List.take_add_one, List.getElem?_eq_getElem hjs]; rfl)
      have hg1 := hQ.out.1
      have hll : (RW.lay l o (s.data.toList.take j)).length = n := by
        rw [lay_len (by rw [List.length_take, hsl.out, hlH.out]; omega)]
        exact hlH.out
      have hcell : wr.cell? ⟨g, o + j, none⟩ = some (.int .u8 ((RW.lay l o (s.data.toList.take j))[o + j]'(by rw [hll]; omega)).toNat) := by
        rw [cellAt hg1, List.getElem?_toArray, RW.byl, List.getElem?_map, List.getElem?_eq_getElem (by rw [hll]; omega)]
        rfl
      have hfz : wr.frozen? ⟨g, o + j, none⟩ = false := by simp [World.frozen?, hg1]
      have hoj : o + j < n := by omega
      have hlH2 := hide hll
      have hg1H := hide hg1
      clear hg1
      go_wp2
      go_roundw
      case rel =>
        have hch := hQ.out.2.set (i := o + j) (.int .u8 (s[j].toNat : Int))
        refine ⟨j + 1, by go_num, by omega, (heap_setCell_same _ _ _ _ _ _ hg1H.out).trans ?_, hch⟩
        have hse : s[j] = s.data.toList[j] := by rw [Array.getElem_toList]; rfl
        have hl0 : (s.data.toList.take j).length = j := by rw [List.length_take]; omega
        have hsn := RW.lay_snoc (l := l) (o := o) (s := s.data.toList.take j) (x := s.data.toList[j]) (by rw [hl0, hlH.out]; omega)
        rw [hl0, ← htk.out] at hsn
        rw [RW.byl_set, hsn, hse]
      case measure => simp [intOf]; omega
    · obtain rfl : j = m := by omega
      go_wp2
      go_end0
      refine ⟨⟨_, rfl⟩, ?_, hQ.out.2⟩
      have := hQ.out.1
      rw [List.take_of_length_le (by rw [hsl.out]; exact Nat.le_refl _)] at this
      exact this
end Go.Proofs.Ytehenjgggaedeaa

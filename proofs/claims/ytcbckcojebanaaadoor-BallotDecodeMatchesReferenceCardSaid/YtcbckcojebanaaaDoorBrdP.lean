/-
  Ballot: the reference's Decode: what it reads, step by step; its memory: no condition beyond each theorem's own premises.
-/
import Derived.Test.YtcbckcojebanaaaDoorIds
import Derived.Test.YtcbckcojebanaaaDoorBal12
import Derived.Test.YtcbckcojebanaaaDoorBr3
namespace Go.Proofs.YtcbckcojebanaaaDoor
open Go.RowKit RG
namespace RW
section
variable {K : Nat → Int} {l r : List UInt8} {f : Nat → Int} {d : List UInt8} {c c2 : Nat} {m : Int}
theorem decM_w1 (h : decNs 6 0 (fun _ => 0) l = none) : decM K l = .wire := by unfold decM; rw [h]
theorem decM_w2 (h : decNs 6 0 (fun _ => 0) l = some (f, r)) (h2 : decS r = none) : decM K l = .wire := by unfold decM; simp only [h, h2]
theorem decM_w3 (h : decNs 6 0 (fun _ => 0) l = some (f, r)) (h2 : decS r = some (d, c)) (h3 : decI (r.drop c) = none) : decM K l = .wire := by unfold decM; simp only [h, h2, h3]
theorem decM_b1 (h : decNs 6 0 (fun _ => 0) l = some (f, r)) (h2 : decS r = some (d, c)) (h3 : decI (r.drop c) = some (m, c2)) (hm : m < 0 ∨ 4000 < m) : decM K l = .bad := by unfold decM; simp only [h, h2, h3, hm, if_true]
theorem decM_w4 (h : decNs 6 0 (fun _ => 0) l = some (f, r)) (h2 : decS r = some (d, c)) (h3 : decI (r.drop c) = some (m, c2)) (hm : ¬ (m < 0 ∨ 4000 < m)) (h4 : decL m.toNat ((r.drop c).drop c2) = none) : decM K l = .wire := by unfold decM; simp only [h, h2, h3, hm, if_false, h4]
theorem decM_end (h : decNs 6 0 (fun _ => 0) l = some (f, r)) (h2 : decS r = some (d, c)) (h3 : decI (r.drop c) = some (m, c2)) (hm : ¬ (m < 0 ∨ 4000 < m)) {ts : List (List UInt8)} {r' : List UInt8} (h4 : decL m.toNat ((r.drop c).drop c2) = some (ts, r')) :
    decM K l = if r' ≠ [] then .wire else if msgB K f d ts = true then .msg f d ts else .bad := by unfold decM; simp only [h, h2, h3, hm, if_false, h4]
end
theorem rdN_six {l : List UInt8} {at_ : Nat} (h : (rdN l 6).2 = (at_, false)) : decNs 6 0 (fun _ => 0) l = some ((rdN l 6).1, l.drop at_) := by
  rcases rdN_spec l 6 (Nat.le_refl _) with ⟨h1, _⟩ | ⟨_, h2⟩
  · rw [h] at h1; cases h1
  · rw [h2, h]; rfl
theorem rdN_fail {l : List UInt8} {j at_ : Nat} (hj : j < 6) (h : (rdN l j).2 = (at_, false)) (hd : decI (l.drop at_) = none) : decNs 6 0 (fun _ => 0) l = none := by
  rcases rdN_spec l (j + 1) hj with ⟨_, h2⟩ | ⟨h1, _⟩
  · exact h2
  · rw [rdN, h, rdI_none l at_ hd] at h1; cases h1
theorem rdN_next {l : List UInt8} {j at_ k : Nat} {n : Int} (h : (rdN l j).2 = (at_, false)) (hd : decI (l.drop at_) = some (n, k)) : (rdN l (j + 1)).2 = (at_ + k, false) ∧ (rdN l (j + 1)).1 = upd (rdN l j).1 j n := by
  rw [rdN, h, rdI_some l at_ n k hd]
  exact ⟨rfl, rfl⟩
/-- the numbers that have been read -/
def numsL (l : List UInt8) (j : Nat) : List Int := (List.range j).map (rdN l j).1
theorem numsL_len (l : List UInt8) (j : Nat) : (numsL l j).length = j := by simp [numsL]
theorem rdN_old (l : List UInt8) (j i : Nat) (h : i < j) : (rdN l (j + 1)).1 i = (rdN l j).1 i := by
  rw [rdN]
  show upd _ _ _ i = _
  unfold upd
  rw [if_neg (by omega)]
theorem numsL_next {l : List UInt8} {j at_ k : Nat} {n : Int} (h : (rdN l j).2 = (at_, false)) (hd : decI (l.drop at_) = some (n, k)) : numsL l (j + 1) = numsL l j ++ [n] := by
  unfold numsL
  rw [List.range_succ, List.map_append]
  congr 1
  · exact List.map_congr_left fun i hi => rdN_old l j i (List.mem_range.1 hi)
  · rw [(rdN_next h hd).2]
    simp [upd]
theorem numsL_get (l : List UInt8) (i : Nat) (h : i < 6) : (numsL l 6)[i]? = some ((rdN l 6).1 i) := by
  unfold numsL
  rw [List.getElem?_map, List.getElem?_range h]
  rfl
theorem rdL_fail {l : List UInt8} {a0 m i at_ : Nat} (hi : i < m) (hg : ∀ j, j ≤ i → (rdL l (a0, false) j).2.2 = false) (h : (rdL l (a0, false) i).2 = (at_, false)) (hd : decS (l.drop at_) = none) : decL m (l.drop a0) = none := by
  rcases rdL_spec l a0 m (i + 1) hi (fun j hj => hg j (by omega)) with ⟨_, h2⟩ | ⟨h1, _⟩
  · exact h2
  · rw [rdL, h, rdS_none l at_ hd] at h1; cases h1
theorem rdL_next {l : List UInt8} {a0 i at_ k : Nat} {t : List UInt8} (h : (rdL l (a0, false) i).2 = (at_, false)) (hd : decS (l.drop at_) = some (t, k)) : (rdL l (a0, false) (i + 1)).2 = (at_ + k, false) ∧ (rdL l (a0, false) (i + 1)).1 = (rdL l (a0, false) i).1 ++ [t] := by
  rw [rdL, h, rdS_some l at_ t k hd]
  exact ⟨rfl, rfl⟩
theorem rdL_all {l : List UInt8} {a0 m at_ : Nat} (hg : ∀ j, j ≤ m → (rdL l (a0, false) j).2.2 = false) (h : (rdL l (a0, false) m).2 = (at_, false)) : decL m (l.drop a0) = some ((rdL l (a0, false) m).1, l.drop at_) := by
  rcases rdL_spec l a0 m m (Nat.le_refl _) (fun j hj => hg j (by omega)) with ⟨h1, _⟩ | ⟨_, h2⟩
  · rw [hg m (Nat.le_refl _)] at h1; cases h1
  · rw [h2, h, Nat.sub_self]
    show some ((rdL l (a0, false) m).1 ++ [], _) = _
    rw [List.append_nil]
end RW
/-- a row of numbers of the call's own -/
abbrev NumO (W : World) (B : Nat) (v : Value) (L : List Int) : Prop := W.ownsRow B 3 1 v L.length (rowCells encI L)
theorem info_num : (Tryd.prog.info? 3).map (fun i => (i.zero, i.size, i.bytes)) = some (some (.int .i64 0), 1, 8) := by kernel_rfl
theorem num_one : ∀ x : Int, ∀ u ∈ encI x, u.oneCell' = true := by
  intro x u hu
  rw [List.mem_singleton] at hu
  subst hu
  rfl
theorem NumO.row {W : World} {B : Nat} {v : Value} {L : List Int} (h : NumO W B v L) : RowV 1 encI W v L := rowV_own (B := B) (e := 3) (n := L.length) (enc := encI) (fun _ => rfl) (by decide) h
theorem NumO.nil (W : World) (B : Nat) : NumO W B (.slice none 0 0) [] := ⟨rfl, .inl ⟨rfl, rfl⟩⟩
theorem NumO.next {W W' : World} {B : Nat} {v : Value} {L : List Int} (h : NumO W B v L) (hB : Below W.heap.size W W') : NumO W' B v L := own_keep h fun _ hg => hB.block _ (own_block h hg).2.1
theorem NumO.app1 {W : World} {B : Nat} {v : Value} {L : List Int} (h : NumO W B v L) (x : Int) (hl : L.length ≤ 1000000) (hB : B ≤ W.heap.size) :
    ∃ v' W', (Builtin.append_ #[35, 35] 35 #[v, .slice (some ⟨W.heap.size, 0, none⟩) 1 1]).run Tryd.prog (W.alloc (.cells #[.int .i64 x] 3)) = .ok v' W' ∧ NumO W' B v' (L ++ [x]) ∧ Below B W W' := by
  have hA := alloc_bel (Below.refl W.heap.size W) (Nat.le_refl _) (.cells #[.int .i64 x] 3)
  have hlit : RowV 1 encI (W.alloc (.cells (rowCells encI [x]).toArray 3)) (.slice (some ⟨W.heap.size, 0, none⟩) 1 1) [x] := rows_lit (k := 1) (enc := encI) W 3 (fun _ => rfl) [x]
  obtain ⟨v', W', h1, h2, h3, _⟩ := run_app_rows (P := Tryd.prog) (enc := encI) 35 Tryd.underlying35 info_num (by rfl) (by decide) (fun _ => rfl) num_one (h.next hA) (Nat.le_trans hB hA.size) hlit (by unfold maxLen; simp; omega) (by simp; omega)
  exact ⟨v', W', h1, h2, (hA.mono hB).trans h3⟩
/-- the reference's Decode: its result, its numbers -/
structure DR (B : Nat) (w : World) (u : Value) (xs : List Int) (W : World) : Prop where
  below : Below B w W
  size : B + 1 ≤ W.heap.size
  res : W.heap[B]? = some (.cells RW.noM 24 (0, 0))
  own : NumO W (B + 1) u xs
theorem DR.next {B : Nat} {w : World} {u : Value} {xs : List Int} {W W' : World} (h : DR B w u xs W) (hB : Below W.heap.size W W') : DR B w u xs W' :=
  ⟨h.below.trans (hB.mono (by have := h.size; omega)), Nat.le_trans h.size hB.size, (hB.block _ (by have := h.size; omega)).trans h.res, h.own.next hB⟩
/-- .. its result, its message -/
structure DMs (B : Nat) (w : World) (b : Nat) (f : Nat → Int) (d : ByteArray) (v : Value) (ts : List ByteArray) (W : World) : Prop where
  below : Below B w W
  lt : B < b
  size : b + 1 ≤ W.heap.size
  res : W.heap[B]? = some (.cells RW.noM 24 (0, 0))
  msg : W.heap[b]? = some (.cells (RW.mcells f d v) 24 (0, 0))
  own : StO W (b + 1) v ts
theorem DMs.next {B b : Nat} {w : World} {f : Nat → Int} {d : ByteArray} {v : Value} {ts : List ByteArray} {W W' : World} (h : DMs B w b f d v ts W) (hB : Below W.heap.size W W') : DMs B w b f d v ts W' :=
  ⟨h.below.trans (hB.mono (by have := h.size; have := h.lt; omega)), h.lt, Nat.le_trans h.size hB.size, (hB.block _ (by have := h.size; have := h.lt; omega)).trans h.res, (hB.block _ (by have := h.size; omega)).trans h.msg, h.own.next hB⟩
theorem rdec_results (tmps : Array Value) (w : World) (B : Nat) (cs : Array Value) (v : Int) (hn : cs.size = 8) (h2 : tmps[2]? = some (.pointer (some ⟨B, 0, none⟩))) (h3 : tmps[3]? = some (.int .i64 v))
    (hx : w.heap[B]? = some (.cells cs 24 (0, 0))) :
    (results Tryd.f24 tmps).run Tryd.prog w = .ok (.tuple #[.agg cs, .int .i64 v]) w := by
  have hi1 : (Tryd.prog.info? 24).map (·.size) = some cs.size := by rw [hn]; kernel_rfl
  have e1 := run_loadVar_row (P := Tryd.prog) w B 24 24 cs (0, 0) _ hx Tryd.underlying24 rfl hi1
  simp [results, Tryd.results24, h2, h3, asAddr, e1]
end Go.Proofs.YtcbckcojebanaaaDoor

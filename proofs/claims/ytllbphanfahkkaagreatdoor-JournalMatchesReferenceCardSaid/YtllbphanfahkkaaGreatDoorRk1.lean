/-
  Package royaltyref22: New, apply, has, Cut: what they return, what they change.
-/
import Derived.Test.YtllbphanfahkkaaGreatDoorDk16P
namespace Go.Proofs.YtllbphanfahkkaaGreatDoor
open Go.RowKit RG
namespace RW
theorem splice_get {α : Type} (L : List α) (o : Nat) (cs : List α) (h : o + cs.length ≤ L.length) (i : Nat) : (Go.splice L o cs)[i]? = if i < o then L[i]? else if i < o + cs.length then cs[i - o]? else L[i]? := by
  unfold Go.splice
  by_cases h1 : i < o
  · rw [if_pos h1, List.getElem?_append_left (by rw [List.length_take]; omega), List.getElem?_take, if_pos h1]
  · rw [if_neg h1, List.getElem?_append_right (by rw [List.length_take]; omega), List.length_take, Nat.min_eq_left (by omega)]
    by_cases h2 : i < o + cs.length
    · rw [if_pos h2, List.getElem?_append_left (by omega)]
    · rw [if_neg h2, List.getElem?_append_right (by omega), List.getElem?_drop]
      congr 1
      omega
theorem lay_snoc {l : List UInt8} {o : Nat} {s : List UInt8} {x : UInt8} (h : o + s.length < l.length) : lay l o (s ++ [x]) = (lay l o s).set (o + s.length) x := by
  apply List.ext_getElem?
  intro i
  have hl : (lay l o s).length = l.length := lay_len (by omega)
  rw [lay, splice_get _ _ _ (by rw [List.length_append]; simp; omega), List.getElem?_set, hl, lay, splice_get _ _ _ (by omega), List.length_append]
  simp only [List.length_singleton]
  by_cases h1 : i < o
  · rw [if_pos h1, if_neg (by omega), if_pos h1]
  · rw [if_neg h1]
    by_cases h2 : o + s.length = i
    · rw [if_pos (by omega), if_pos h2, if_pos (by omega), List.getElem?_append_right (by omega)]
      rw [show i - o - s.length = 0 by omega]
      rfl
    · rw [if_neg h2, if_neg h1]
      by_cases h3 : i < o + s.length
      · rw [if_pos (by omega), if_pos h3, List.getElem?_append_left (by omega)]
      · rw [if_neg (by omega), if_neg h3]
theorem lay_nil (l : List UInt8) (o : Nat) : lay l o [] = l := by simp [lay, Go.splice]
theorem byl_set (l : List UInt8) (k : Nat) (u : UInt8) : (byl l).toArray.setIfInBounds k (.int .u8 (u.toNat : Int)) = (byl (l.set k u)).toArray := by
  rw [List.setIfInBounds_toArray]
  congr 1
  simp [byl, List.map_set]
end RW
/-- a disk of the reference in memory -/
structure RefAt (W : World) (B b n sb : Nat) (L : List UInt8) (pv : Value) (S : RW.Dk) : Prop where
  row : W.heap[b]? = some (.cells #[.slice (some ⟨sb, 0, none⟩) n L.length, pv, .bool S.off, .int .i64 (S.left : Int)] 67 (0, 0))
  sure : W.heap[sb]? = some (.cells (RW.byl L).toArray 5 (0, 0))
  ld : L.take n = S.dur
  ln : n ≤ L.length
  pend : W.ownsRow B 111 2 pv S.pend.length (rowCells RW.wrl S.pend)
  hb : B ≤ b
  hs : B ≤ sb
  hn : n ≤ 4194304
  lf : (S.left : Int) ≤ 9223372036854775807
/-- what a call on a disk of the reference may change -/
structure RFr (b sb : Nat) (W : World) (sb' : Nat) (W' : World) : Prop where
  size : W.heap.size ≤ W'.heap.size
  frn : ∀ k, k < W.heap.size → k ≠ b → k ≠ sb → (∀ cur fr, W.heap[k]? ≠ some (.cells cur 111 fr)) → W'.heap[k]? = W.heap[k]? ∧ k ≠ sb'
theorem RFr.refl (b sb : Nat) (W : World) : RFr b sb W sb W := ⟨Nat.le_refl _, fun _ _ _ h _ => ⟨rfl, h⟩⟩
theorem RFr.trans {b sb sb' sb'' : Nat} {W W' W'' : World} (h : RFr b sb W sb' W') (g : RFr b sb' W' sb'' W'') : RFr b sb W sb'' W'' :=
  ⟨Nat.le_trans h.size g.size, fun k hk h1 h2 h3 => by
    have e := h.frn k hk h1 h2 h3
    have f := g.frn k (Nat.lt_of_lt_of_le hk h.size) h1 e.2 (by rw [e.1]; exact h3)
    exact ⟨f.1.trans e.1, f.2⟩⟩
theorem RFr.of_below {b sb : Nat} {W W' : World} (h : Below W.heap.size W W') : RFr b sb W sb W' := ⟨h.size, fun k hk _ h2 _ => ⟨h.block k hk, h2⟩⟩
theorem Chg.rfr {W W' : World} {b sb c : Nat} (hc : Chg c W W') (hQ : c = b ∨ c = sb) : RFr b sb W sb W' :=
  ⟨hc.size, fun k hk h1 h2 _ => ⟨hc.block k hk fun hq => by
    rcases hQ with e | e
    · exact h1 (hq.trans e)
    · exact h2 (hq.trans e), h2⟩⟩
section
variable {W W' : World} {B b n sb : Nat} {L : List UInt8} {pv : Value} {S : RW.Dk}
theorem RefAt.lt (h : RefAt W B b n sb L pv S) : b < W.heap.size ∧ sb < W.heap.size := ⟨(Array.getElem?_eq_some_iff.1 h.row).1, (Array.getElem?_eq_some_iff.1 h.sure).1⟩
theorem RefAt.keep (h : RefAt W B b n sb L pv S) (hk : ∀ k, k < W.heap.size → (k = b ∨ k = sb ∨ pv.ownBlock = some k) → W'.heap[k]? = W.heap[k]?) : RefAt W' B b n sb L pv S :=
  ⟨(hk b h.lt.1 (.inl rfl)).trans h.row, (hk sb h.lt.2 (.inr (.inl rfl))).trans h.sure, h.ld, h.ln, own_keep h.pend fun g hg => hk g (h.pend.lt g hg).2 (.inr (.inr hg)), h.hb, h.hs, h.hn, h.lf⟩
theorem RefAt.next (h : RefAt W B b n sb L pv S) (hB : Below W.heap.size W W') : RefAt W' B b n sb L pv S := h.keep fun k hk _ => hB.block k hk
theorem RefAt.pblock (h : RefAt W B b n sb L pv S) {g : Nat} (hg : pv.ownBlock = some g) : ∃ cur fr, W.heap[g]? = some (.cells cur 111 fr) := by
  rcases h.pend.2 with ⟨rfl, _⟩ | ⟨g', cap, cur, rfl, _, h3, _⟩
  · cases hg
  · cases hg
    exact ⟨cur, _, h3⟩
theorem RefAt.apart (h : RefAt W B b n sb L pv S) : b ≠ sb ∧ ∀ g, pv.ownBlock = some g → g ≠ b ∧ g ≠ sb :=
  ⟨blocks_ne h.row h.sure (by decide), fun g hg => by
    obtain ⟨c, f, hh⟩ := h.pblock hg
    exact ⟨blocks_ne hh h.row (by decide), blocks_ne hh h.sure (by decide)⟩⟩
theorem RefAt.form (h : RefAt W B b n sb L pv S) : ∃ a c, pv = .slice a S.pend.length c := by
  rcases h.pend.2 with ⟨rfl, h0⟩ | ⟨g, cap, cur, rfl, _⟩
  · exact ⟨none, 0, by rw [h0]⟩
  · exact ⟨_, _, rfl⟩
/-- the row of the struct is written -/
theorem RefAt.rowChg {off : Bool} {left : Nat} (h : RefAt W B b n sb L pv S) (h1 : W'.heap[b]? = some (.cells #[.slice (some ⟨sb, 0, none⟩) n L.length, pv, .bool off, .int .i64 (left : Int)] 67 (0, 0))) (h2 : Chg b W W') (hl : (left : Int) ≤ 9223372036854775807) {v : List UInt8} :
    RefAt W' B b n sb L pv ⟨off, left, S.dur, v, S.pend⟩ ∧ RFr b sb W sb W' ∧ Below B W W' := by
  obtain ⟨a1, a2⟩ := h.apart
  exact ⟨⟨h1, (h2.block sb h.lt.2 (Ne.symm a1)).trans h.sure, h.ld, h.ln, own_keep h.pend fun g hg => h2.block g (h.pend.lt g hg).2 (a2 g hg).1, h.hb, h.hs, h.hn, hl⟩, h2.rfr (.inl rfl), h2.below h.hb (Nat.le_trans h.hb (Nat.le_of_lt h.lt.1))⟩
end
namespace RW
theorem lay_take {L : List UInt8} {o n : Nat} {s : List UInt8} (h : o + s.length ≤ n) (hn : n ≤ L.length) : (lay L o s).take n = lay (L.take n) o s := by
  have hl : (L.take n).length = n := by rw [List.length_take]; omega
  apply List.ext_getElem?
  intro i
  rw [List.getElem?_take, lay, lay, splice_get _ _ _ (by omega), splice_get _ _ _ (by rw [hl]; exact h), List.getElem?_take]
  by_cases h1 : i < n
  · rw [if_pos h1, if_pos h1]
  · rw [if_neg h1, if_neg h1, if_neg (by omega), if_neg (by omega)]
end RW
set_option maxRecDepth 10000 in
set_option maxHeartbeats 2000000 in
theorem apply_any (g n c : Nat) (l : List UInt8) (o : Nat) (s : ByteArray) (hn : n ≤ 4194304) (hl : n ≤ l.length) (ho : o + s.size ≤ n) (w : World) (hg : w.heap[g]? = some (.cells (RW.byl l).toArray 5 (0, 0))) :
    Calls Tryz.prog 58 #[.slice (some ⟨g, 0, none⟩) n c, .int .i64 (o : Int), .string s] w fun e w' => (∃ v, e = .returned v) ∧ w'.heap[g]? = some (.cells (RW.byl (RW.lay l o s.data.toList)).toArray 5 (0, 0)) ∧ Chg g w w' := by
  obtain ⟨m, hm⟩ : ∃ m, m = s.size := ⟨_, rfl⟩
  have hmH := hide hm
  have hlH := hide hl
  have hgH := hide hg
  have hsl := hide (show s.data.toList.length = m by rw [hm, Array.length_toList]; rfl)
  rw [← hm] at ho
  clear hm hl hg
  go_enter Tryz.func58, Tryz.ntmps58
  go_wp2
  go_loopw [6] (fun i wr => ∃ j : Nat, i = .int .i64 j ∧ j ≤ m ∧ Hid (wr.heap[g]? = some (.cells (RW.byl (RW.lay l o (s.data.toList.take j))).toArray 5 (0, 0)) ∧ Chg g w wr)) (fun i _ => m - (intOf i).toNat)
  case atStart => exact ⟨0, rfl, Nat.zero_le _, by rw [List.take_zero, RW.lay_nil]; exact hgH.out, Chg.refl _ _⟩
  case round =>
    obtain ⟨j, rfl, hjm, hQ⟩ := hrel
    have hsz : s.size = m := hmH.out.symm
    by_cases hlt : j < m
    · have hjs : j < s.data.toList.length := by rw [hsl.out]; exact hlt
      have htk := hide (show s.data.toList.take (j + 1) = s.data.toList.take j ++ [s.data.toList[j]] by rw [List.take_add_one, List.getElem?_eq_getElem hjs]; rfl)
      have hg1 := hQ.out.1
      have hll : (RW.lay l o (s.data.toList.take j)).length = l.length := lay_len (by have := hlH.out; rw [List.length_take, hsl.out]; omega)
      have hlt2 : o + j < (RW.lay l o (s.data.toList.take j)).length := by rw [hll]; have := hlH.out; omega
      have hcell : wr.cell? ⟨g, o + j, none⟩ = some (.int .u8 ((RW.lay l o (s.data.toList.take j))[o + j]'hlt2).toNat) := by
        rw [cellAt hg1, List.getElem?_toArray, RW.byl, List.getElem?_map, List.getElem?_eq_getElem hlt2]
        rfl
      have hfz : wr.frozen? ⟨g, o + j, none⟩ = false := by simp [World.frozen?, hg1]
      have hoj : o + j < n := by omega
      have hlH2 := hide hll
      have hlt2H := hide hlt2
      have hg1H := hide hg1
      clear hg1 hll
      go_wp2
      go_roundw
      case rel =>
        have hch := hQ.out.2.set (i := o + j) (.int .u8 (s[j].toNat : Int))
        refine ⟨j + 1, by go_num, by omega, (heap_setCell_same _ _ _ _ _ _ hg1H.out).trans ?_, hch⟩
        have hse : s[j] = s.data.toList[j] := by rw [Array.getElem_toList]; rfl
        have hl0 : (s.data.toList.take j).length = j := by rw [List.length_take]; omega
        have hsn := RW.lay_snoc (l := l) (o := o) (s := s.data.toList.take j) (x := s.data.toList[j]) (by rw [hl0]; have := hlH.out; omega)
        rw [hl0, ← htk.out] at hsn
        rw [RW.byl_set, hsn, hse]
      case measure => simp [intOf]; omega
    · obtain rfl : j = m := by omega
      go_wp2
      go_end0
      refine ⟨⟨_, rfl⟩, ?_, hQ.out.2⟩
      have := hQ.out.1
      rw [List.take_of_length_le (by rw [hsl.out]; exact Nat.le_refl _)] at this
      exact this
set_option maxRecDepth 10000 in
theorem has_any (v : Value) (l : List Int) (x : Int) (hl : l.length ≤ 1000000) (w : World) (hv : RowV 1 (fun z => [Value.int .i64 z]) w v l) :
    Calls Tryz.prog 110 #[v, .int .i64 x] w fun e w' => e = .returned (.bool (l.contains x)) ∧ w = w' := by
  obtain ⟨m, hm⟩ : ∃ m, m = l.length := ⟨_, rfl⟩
  obtain ⟨av, cv, rfl, hcv, hav⟩ := hv
  rw [← hm] at hcv hl ⊢
  have hmH := hide hm
  have havH := hide hav
  clear hm hav hcv
  go_enter Tryz.func110, Tryz.ntmps110
  go_wp2
  go_loopw [5] (fun i wr => ∃ j : Nat, i = .int .i64 j ∧ j ≤ m ∧ Hid ((l.take j).contains x = false ∧ wr = w)) (fun i _ => m - (intOf i).toNat)
  case atStart => exact ⟨0, rfl, Nat.zero_le _, by simp, rfl⟩
  case round =>
    obtain ⟨j, rfl, hjm, hQ⟩ := hrel
    obtain ⟨hno, hwr⟩ := hQ.out
    subst hwr
    have hnoH := hide hno
    clear hQ hno
    by_cases hlt : j < m
    · obtain ⟨y, hy⟩ : ∃ y, l[j]? = some y := ⟨_, List.getElem?_eq_getElem (by rw [← hmH.out]; exact hlt)⟩
      obtain ⟨b, o, rfl, _, hc⟩ := havH.out.resolve_left (by rintro rfl; simp at hy)
      have hcell : wr.cell? ⟨b, o + j, none⟩ = some (.int .i64 y) := by
        have := hc j y hy 0 _ rfl
        rw [Nat.mul_one, Nat.add_zero] at this
        exact this
      have htk := hide (show l.take (j + 1) = l.take j ++ [y] by rw [List.take_add_one, hy]; rfl)
      have hyH := hide hy
      clear hc hy
      by_cases hyx : y = x
      · go_wp2
        go_ret
        refine ⟨?_, rfl⟩
        rw [show l.contains x = true from List.contains_iff_mem.2 (hyx ▸ List.mem_of_getElem? hyH.out)] <;> rfl
      · go_wp2
        go_roundw
        case rel => exact ⟨j + 1, by go_num, by omega, ⟨by rw [htk.out, List.contains_eq_any_beq, List.any_append, ← List.contains_eq_any_beq, hnoH.out]; simp; exact fun h => hyx h.symm, trivial⟩⟩
        case measure => simp [intOf]; omega
    · obtain rfl : j = m := by omega
      go_wp2
      go_ret
      refine ⟨?_, rfl⟩
      have h1 := hnoH.out
      rw [List.take_of_length_le (by rw [← hmH.out]; exact Nat.le_refl _)] at h1
      rw [h1] <;> rfl
end Go.Proofs.YtllbphanfahkkaaGreatDoor

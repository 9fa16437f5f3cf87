/-
  Package royaltyref22: New, apply, has, Cut: what they return, what they change.
-/
import Derived.Test.YtllbphanfahkkaaGreatDoorMQ4
namespace Go.Proofs.YtllbphanfahkkaaGreatDoor
open Go.RowKit RG
namespace RW
theorem splice_get {α : Type} (L : List α) (o : Nat) (cs : List α) (h : o + cs.length ≤ L.length) (i : Nat) : (Go.splice L o cs)[i]? = if i < o then L[i]? else if i < o + cs.length then cs[i - o]? else L[i]? := by
  unfold Go.splice
  by_cases h1 : i < o
  · rw [if_pos h1, List.getElem?_append_left (by rw [List.length_take]; omega), List.getElem?_take, if_pos h1]
  · rw [if_neg h1, List.getElem?_append_right (by rw [List.length_take]; omega), List.length_take, Nat.min_eq_left (by omega)]
    by_cases h2 : i < o + cs.length
    · rw [if_pos h2, List.getElem?_append_left (by omega)]
    · rw [if_neg h2, List.getElem?_append_right (by omega), List.getElem?_drop]
      congr 1
      omega
theorem lay_snoc {l : List UInt8} {o : Nat} {s : List UInt8} {x : UInt8} (h : o + s.length < l.length) : lay l o (s ++ [x]) = (lay l o s).set (o + s.length) x := by
  apply List.ext_getElem?
  intro i
  have hl : (lay l o s).length = l.length := lay_len (by omega)
  rw [lay, splice_get _ _ _ (by rw [List.length_append]; simp; omega), List.getElem?_set, hl, lay, splice_get _ _ _ (by omega), List.length_append]
  simp only [List.length_singleton]
  by_cases h1 : i < o
  · rw [if_pos h1, if_neg (by omega), if_pos h1]
  · rw [if_neg h1]
    by_cases h2 : o + s.length = i
    · rw [if_pos (by omega), if_pos h2, if_pos (by omega), List.getElem?_append_right (by omega)]
      rw [show i - o - s.length = 0 by omega]
      rfl
    · rw [if_neg h2, if_neg h1]
      by_cases h3 : i < o + s.length
      · rw [if_pos (by omega), if_pos h3, List.getElem?_append_left (by omega)]
      · rw [if_neg (by omega), if_neg h3]
theorem lay_nil (l : List UInt8) (o : Nat) : lay l o [] = l := by simp [lay, Go.splice]
theorem byl_set (l : List UInt8) (k : Nat) (u : UInt8) : (byl l).toArray.setIfInBounds k (.int .u8 (u.toNat : Int)) = (byl (l.set k u)).toArray := by
  rw [List.setIfInBounds_toArray]
  congr 1
  simp [byl, List.map_set]
end RW
/-- a disk of the reference in memory -/
structure RefAt (W : World) (B b n sb : Nat) (L : List UInt8) (pv : Value) (S : RW.Dk) : Prop where
  row : W.heap[b]? = some (.cells #[.slice (some ⟨sb, 0, none⟩) n L.length, pv, .bool S.off, .int .i64 (S.left : Int)] 67 (0, 0))
  sure : W.heap[sb]? = some (.cells (RW.byl L).toArray 5 (0, 0))
  ld : L.take n = S.dur
  ln : n ≤ L.length
  pend : W.ownsRow B 111 2 pv S.pend.length (rowCells RW.wrl S.pend)
  hb : B ≤ b
  hs : B ≤ sb
  hn : n ≤ 4194304
  lf : (S.left : Int) ≤ 9223372036854775807
/-- what a call on a disk of the reference may change -/
structure RFr (b sb : Nat) (W : World) (sb' : Nat) (W' : World) : Prop where
  size : W.heap.size ≤ W'.heap.size
  frn : ∀ k, k < W.heap.size → k ≠ b → k ≠ sb → (∀ cur fr, W.heap[k]? ≠ some (.cells cur 111 fr)) → W'.heap[k]? = W.heap[k]? ∧ k ≠ sb'
theorem RFr.refl (b sb : Nat) (W : World) : RFr b sb W sb W := ⟨Nat.le_refl _, fun _ _ _ h _ => ⟨rfl, h⟩⟩
theorem RFr.trans {b sb sb' sb'' : Nat} {W W' W'' : World} (h : RFr b sb W sb' W') (g : RFr b sb' W' sb'' W'') : RFr b sb W sb'' W'' :=
  ⟨Nat.le_trans h.size g.size, fun k hk h1 h2 h3 => by
    have e := h.frn k hk h1 h2 h3
    have f := g.frn k (Nat.lt_of_lt_of_le hk h.size) h1 e.2 (by rw [e.1]; exact h3)
    exact ⟨f.1.trans e.1, f.2⟩⟩
theorem RFr.of_below {b sb : Nat} {W W' : World} (h : Below W.heap.size W W') : RFr b sb W sb W' := ⟨h.size, fun k hk _ h2 _ => ⟨h.block k hk, h2⟩⟩
theorem Chg.rfr {W W' : World} {b sb c : Nat} (hc : Chg c W W') (hQ : c = b ∨ c = sb) : RFr b sb W sb W' :=
  ⟨hc.size, fun k hk h1 h2 _ => ⟨hc.block k hk fun hq => by
    rcases hQ with e | e
    · exact h1 (hq.trans e)
    · exact h2 (hq.trans e), h2⟩⟩
section
variable {W W' : World} {B b n sb : Nat} {L : List UInt8} {pv : Value} {S : RW.Dk}
theorem RefAt.lt (h : RefAt W B b n sb L pv S) : b < W.heap.size ∧ sb < W.heap.size := ⟨(Array.getElem?_eq_some_iff.1 h.row).1, (Array.getElem?_eq_some_iff.1 h.sure).1⟩
theorem RefAt.keep (h : RefAt W B b n sb L pv S) (hk : ∀ k, k < W.heap.size → (k = b ∨ k = sb ∨ pv.ownBlock = some k) → W'.heap[k]? = W.heap[k]?) : RefAt W' B b n sb L pv S :=
  ⟨(hk b h.lt.1 (.inl rfl)).trans h.row, (hk sb h.lt.2 (.inr (.inl rfl))).trans h.sure, h.ld, h.ln, own_keep h.pend fun g hg => hk g (h.pend.lt g hg).2 (.inr (.inr hg)), h.hb, h.hs, h.hn, h.lf⟩
theorem RefAt.next (h : RefAt W B b n sb L pv S) (hB : Below W.heap.size W W') : RefAt W' B b n sb L pv S := h.keep fun k hk _ => hB.block k hk
theorem RefAt.pblock (h : RefAt W B b n sb L pv S) {g : Nat} (hg : pv.ownBlock = some g) : ∃ cur fr, W.heap[g]? = some (.cells cur 111 fr) := by
  rcases h.pend.2 with ⟨rfl, _⟩ | ⟨g', cap, cur, rfl, _, h3, _⟩
  · cases hg
  · cases hg
    exact ⟨cur, _, h3⟩
theorem RefAt.apart (h : RefAt W B b n sb L pv S) : b ≠ sb ∧ ∀ g, pv.ownBlock = some g → g ≠ b ∧ g ≠ sb :=
  ⟨blocks_ne h.row h.sure (by decide), fun g hg => by
    obtain ⟨c, f, hh⟩ := h.pblock hg
    exact ⟨blocks_ne hh h.row (by decide), blocks_ne hh h.sure (by decide)⟩⟩
theorem RefAt.form (h : RefAt W B b n sb L pv S) : ∃ a c, pv = .slice a S.pend.length c := by
  rcases h.pend.2 with ⟨rfl, h0⟩ | ⟨g, cap, cur, rfl, _⟩
  · exact ⟨none, 0, by rw [h0]⟩
  · exact ⟨_, _, rfl⟩
/-- the row of the struct is written -/
theorem RefAt.rowChg {off : Bool} {left : Nat} (h : RefAt W B b n sb L pv S) (h1 : W'.heap[b]? = some (.cells #[.slice (some ⟨sb, 0, none⟩) n L.length, pv, .bool off, .int .i64 (left : Int)] 67 (0, 0))) (h2 : Chg b W W') (hl : (left : Int) ≤ 9223372036854775807) {v : List UInt8} :
    RefAt W' B b n sb L pv ⟨off, left, S.dur, v, S.pend⟩ ∧ RFr b sb W sb W' ∧ Below B W W' := by
  obtain ⟨a1, a2⟩ := h.apart
  exact ⟨⟨h1, (h2.block sb h.lt.2 (Ne.symm a1)).trans h.sure, h.ld, h.ln, own_keep h.pend fun g hg => h2.block g (h.pend.lt g hg).2 (a2 g hg).1, h.hb, h.hs, h.hn, hl⟩, h2.rfr (.inl rfl), h2.below h.hb (Nat.le_trans h.hb (Nat.le_of_lt h.lt.1))⟩
end
namespace RW
theorem lay_take {L : List UInt8} {o n : Nat} {s : List UInt8} (h : o + s.length ≤ n) (hn : n ≤ L.length) : (lay L o s).take n = lay (L.take n) o s := by
  have hl : (L.take n).length = n := by rw [List.length_take]; omega
  apply List.ext_getElem?
  intro i
  rw [List.getElem?_take, lay, lay, splice_get _ _ _ (by omega), splice_get _ _ _ (by rw [hl]; exact h), List.getElem?_take]
  by_cases h1 : i < n
  · rw [if_pos h1, if_pos h1]
  · rw [if_neg h1, if_neg h1, if_neg (by omega), if_neg (by omega)]
end RW
set_option maxRecDepth 10000 in
set_option maxHeartbeats 2000000 in
theorem apply_any (g n c : Nat) (l : List UInt8) (o : Nat) (s : ByteArray) (hn : n ≤ 4194304) (hl : n ≤ l.length) (ho : o + s.size ≤ n) (w : World) (hg : w.heap[g]? = some (.cells (RW.byl l).toArray 5 (0, 0))) :
    Calls Tryz.prog 58 #[.slice (some ⟨g, 0, none⟩) n c, .int .i64 (o : Int), .string s] w fun e w' => (∃ v, e = .returned v) ∧ w'.heap[g]? = some (.cells (RW.byl (RW.lay l o s.data.toList)).toArray 5 (0, 0)) ∧ Chg g w w' := by
  obtain ⟨m, hm⟩ : ∃ m, m = s.size := ⟨_, rfl⟩
  have hmH := hide hm
  have hlH := hide hl
  have hgH := hide hg
  have hsl := hide (show s.data.toList.length = m by rw [hm, Array.length_toList]; rfl)
  rw [← hm] at ho
  clear hm hl hg
  go_enter Tryz.func58, Tryz.ntmps58
  go_wp2
  go_loopw [6] (fun i wr => ∃ j : Nat, i = .int .i64 j ∧ j ≤ m ∧ Hid (wr.heap[g]? = some (.cells (RW.byl (RW.lay l o (s.data.toList.take j))).toArray 5 (0, 0)) ∧ Chg g w wr)) (fun i _ => m - (intOf i).toNat)
  case atStart => exact ⟨0, rfl, Nat.zero_le _, by rw [List.take_zero, RW.lay_nil]; exact hgH.out, Chg.refl _ _⟩
  case round =>
    obtain ⟨j, rfl, hjm, hQ⟩ := hrel
    have hsz : s.size = m := hmH.out.symm
    by_cases hlt : j < m
    · have hjs : j < s.data.toList.length := by rw [hsl.out]; exact hlt
      have htk := hide (show s.data.toList.take (j + 1) = s.data.toList.take j ++ [s.data.toList[j]] by rw [List.take_add_one, List.getElem?_eq_getElem hjs]; rfl)
      have hg1 := hQ.out.1
      have hll : (RW.lay l o (s.data.toList.take j)).length = l.length := lay_len (by have := hlH.out; rw [List.length_take, hsl.out]; omega)
      have hlt2 : o + j < (RW.lay l o (s.data.toList.take j)).length := by rw [hll]; have := hlH.out; omega
      have hcell : wr.cell? ⟨g, o + j, none⟩ = some (.int .u8 ((RW.lay l o (s.data.toList.take j))[o + j]'hlt2).toNat) := by
        rw [cellAt hg1, List.getElem?_toArray, RW.byl, List.getElem?_map, List.getElem?_eq_getElem hlt2]
        rfl
      have hfz : wr.frozen? ⟨g, o + j, none⟩ = false := by simp [World.frozen?, hg1]
      have hoj : o + j < n := by omega
      have hlH2 := hide hll
      have hlt2H := hide hlt2
      have hg1H := hide hg1
      clear hg1 hll
      go_wp2
      go_roundw
      case rel =>
        have hch := hQ.out.2.set (i := o + j) (.int .u8 (s[j].toNat : Int))
        refine ⟨j + 1, by go_num, by omega, (heap_setCell_same _ _ _ _ _ _ hg1H.out).trans ?_, hch⟩
        have hse : s[j] = s.data.toList[j] := by rw [Array.getElem_toList]; rfl
        have hl0 : (s.data.toList.take j).length = j := by rw [List.length_take]; omega
        have hsn := RW.lay_snoc (l := l) (o := o) (s := s.data.toList.take j) (x := s.data.toList[j]) (by rw [hl0]; have := hlH.out; omega)
        rw [hl0, ← htk.out] at hsn
        rw [RW.byl_set, hsn, hse]
      case measure => simp [intOf]; omega
    · obtain rfl : j = m := by omega
      go_wp2
      go_end0
      refine ⟨⟨_, rfl⟩, ?_, hQ.out.2⟩
      have := hQ.out.1
      rw [List.take_of_length_le (by rw [hsl.out]; exact Nat.le_refl _)] at this
      exact this
set_option maxRecDepth 10000 in
theorem has_any (v : Value) (l : List Int) (x : Int) (hl : l.length ≤ 1000000) (w : World) (hv : RowV 1 (fun z => [Value.int .i64 z]) w v l) :
    Calls Tryz.prog 110 #[v, .int .i64 x] w fun e w' => e = .returned (.bool (l.contains x)) ∧ w = w' := by
  obtain ⟨m, hm⟩ : ∃ m, m = l.length := ⟨_, rfl⟩
  obtain ⟨av, cv, rfl, hcv, hav⟩ := hv
  rw [← hm] at hcv hl ⊢
  have hmH := hide hm
  have havH := hide hav
  clear hm hav hcv
  go_enter Tryz.func110, Tryz.ntmps110
  go_wp2
  go_loopw [5] (fun i wr => ∃ j : Nat, i = .int .i64 j ∧ j ≤ m ∧ Hid ((l.take j).contains x = false ∧ wr = w)) (fun i _ => m - (intOf i).toNat)
  case atStart => exact ⟨0, rfl, Nat.zero_le _, by simp, rfl⟩
  case round =>
    obtain ⟨j, rfl, hjm, hQ⟩ := hrel
    obtain ⟨hno, hwr⟩ := hQ.out
    subst hwr
    have hnoH := hide hno
    clear hQ hno
    by_cases hlt : j < m
    · obtain ⟨y, hy⟩ : ∃ y, l[j]? = some y := ⟨_, List.getElem?_eq_getElem (by rw [← hmH.out]; exact hlt)⟩
      obtain ⟨b, o, rfl, _, hc⟩ := havH.out.resolve_left (by rintro rfl; simp at hy)
      have hcell : wr.cell? ⟨b, o + j, none⟩ = some (.int .i64 y) := by
        have := hc j y hy 0 _ rfl
        rw [Nat.mul_one, Nat.add_zero] at this
        exact this
      have htk := hide (show l.take (j + 1) = l.take j ++ [y] by rw [List.take_add_one, hy]; rfl)
      have hyH := hide hy
      clear hc hy
      by_cases hyx : y = x
      · go_wp2
        go_ret
        refine ⟨?_, rfl⟩
        rw [show l.contains x = true from List.contains_iff_mem.2 (hyx ▸ List.mem_of_getElem? hyH.out)] <;> rfl
      · go_wp2
        go_roundw
        case rel => exact ⟨j + 1, by go_num, by omega, ⟨by rw [htk.out, List.contains_eq_any_beq, List.any_append, ← List.contains_eq_any_beq, hnoH.out]; simp; exact fun h => hyx h.symm, trivial⟩⟩
        case measure => simp [intOf]; omega
    · obtain rfl : j = m := by omega
      go_wp2
      go_ret
      refine ⟨?_, rfl⟩
      have h1 := hnoH.out
      rw [List.take_of_length_le (by rw [← hmH.out]; exact Nat.le_refl _)] at h1
      rw [h1] <;> rfl
end Go.Proofs.YtllbphanfahkkaaGreatDoor

/-
  Package royaltyref22: New, Cut, Visible: what they return, what they change.
-/
namespace Go.Proofs.YtllbphanfahkkaaGreatDoor
open Go.RowKit RG
theorem zeroes_byl (k : Nat) : Builtin.zeroCells #[Value.int .u8 0] k = (RW.byl (List.replicate k 0)).toArray := by
  apply Array.ext
  · rw [size_zeroCells]; simp [RW.byl]
  · intro i h1 h2
    simp [Builtin.zeroCells, RW.byl]
    rw [Nat.mod_one]; rfl
theorem by_info : (Tryz.prog.info? 5).map (fun i => (i.zero, i.size, i.bytes)) = some (some (.int .u8 0), 1, 1) := by kernel_rfl
theorem byl_cellsAt {w : World} {sb : Nat} {L : List UInt8} (hs : w.heap[sb]? = some (.cells (RW.byl L).toArray 5 (0, 0))) (n : Nat) : ∀ j v, (RW.byl (L.take n))[j]? = some v → w.cell? ((⟨sb, 0, none⟩ : Addr).add j) = some v := by
  intro j v hj
  rw [show (⟨sb, 0, none⟩ : Addr).add j = ⟨sb, j, none⟩ by simp [Addr.add]; intro h; exact h.symm, cellAt hs, List.getElem?_toArray]
  rw [RW.byl, List.getElem?_map, List.getElem?_take] at hj
  rw [RW.byl, List.getElem?_map]
  split at hj
  · exact hj
  · cases hj
theorem run_app_vis (ty : TypeId) (w : World) (L : List UInt8) (sb g0 n c : Nat) (h1 : 1 ≤ n) (hn : n ≤ 4194304) (hln : n ≤ L.length) (hs : w.heap[sb]? = some (.cells (RW.byl L).toArray 5 (0, 0))) :
    ∃ L', (Builtin.append_ #[39, 39] ty #[.slice (some ⟨g0, 0, none⟩) 0 0, .slice (some ⟨sb, 0, none⟩) n c]).run Tryz.prog w = .ok (.slice (some ⟨w.heap.size, 0, none⟩) n L'.length) (w.drew.alloc (.cells (RW.byl L').toArray 5)) ∧ L'.take n = L.take n ∧ n ≤ L'.length := by
  obtain ⟨i, hi, hz, hsz, hb⟩ := info_parts by_info
  have hl : (RW.byl (L.take n)).length = n := by rw [byl_len, List.length_take]; omega
  have hr := run_append_grow (P := Tryz.prog) w 39 ty 5 i (.int .u8 0) Tryz.underlying39 hi hz ⟨g0, 0, none⟩ 0 0 [] (by simp) (by simp) ⟨sb, 0, none⟩ n c (RW.byl (L.take n)) (by rw [hl, hsz]; omega) (byl_cellsAt hs n) (by omega) (by omega) (by rw [Nat.zero_add, nextslicecap_zero (by omega), hb]; omega)
  rw [Nat.zero_add] at hr
  have hge := grownCap_ge w n 0 5
  refine ⟨L.take n ++ List.replicate (grownCap w n 0 5 - n) 0, ?_, ?_, ?_⟩
  · rw [hr]
    have hlen : (L.take n ++ List.replicate (grownCap w n 0 5 - n) (0 : UInt8)).length = grownCap w n 0 5 := by
      rw [List.length_append, List.length_take, List.length_replicate]; omega
    have hcs : #[] ++ (RW.byl (L.take n)).toArray ++ Builtin.zeroCells #[Value.int .u8 0] (grownCap w n 0 5 - n) = (RW.byl (L.take n ++ List.replicate (grownCap w n 0 5 - n) 0)).toArray := by
      rw [zeroes_byl]
      simp [RW.byl]
    rw [hlen, ← hcs]
    rfl
  · rw [List.take_append_of_le_length (by rw [List.length_take]; omega), List.take_take, Nat.min_self]
  · rw [List.length_append, List.length_take]; omega
set_option maxRecDepth 10000 in
set_option maxHeartbeats 1000000 in
theorem rnew_any (n : Nat) (h1 : 1 ≤ n) (hn : n ≤ 4194304) (w : World) : Calls Tryz.prog 38 #[.int .i64 (n : Int)] w fun e w' => ∃ b, e = .returned (.tuple #[.pointer (some ⟨b, 0, none⟩), .int .i64 0]) ∧ (∃ sb, RefAt w' w.heap.size b n sb (List.replicate n 0) (.slice none 0 0) (RW.dk0 n)) ∧ Below w.heap.size w w' := by
  have h1i : ¬ (n : Int) < 1 := by omega
  have h2i : ¬ 4194304 < (n : Int) := by omega
  have hmk := run_make_by n hn w
  have hnH := hide hn
  obtain ⟨sb, hsb⟩ : ∃ b, b = w.heap.size := ⟨_, rfl⟩
  have hA := hide ((Below.refl w.heap.size w).alloc (Nat.le_refl _) (.cells (RW.byl (List.replicate n 0)).toArray 5))
  have hs0 := hide (show (w.alloc (.cells (RW.byl (List.replicate n 0)).toArray 5)).heap[sb]? = some (.cells (RW.byl (List.replicate n 0)).toArray 5 (0, 0)) from newAt hsb)
  have hsbH := hide hsb
  clear h1 hn hsb
  go_enter Tryz.func38, Tryz.ntmps38
  go_wp2
  refine bodyPost_ret (results_tmp2 rfl _ _ _) rfl ⟨w.heap.size + 1, rfl, ⟨sb, ?_⟩, ?_⟩
  · rw [← hsbH.out]
    refine ⟨?_, ?_, by simp; rfl, by simp, World.ownsRow_nil _ _ _ _, by omega, Nat.le_refl _, hnH.out, by show (0 : Int) ≤ _; decide⟩
    · refine (newAt (by simp; exact hsbH.out)).trans ?_
      simp
      exact ⟨rfl, rfl⟩
    · exact (Below.heap_alloc _ _ _ (Array.getElem?_eq_some_iff.1 hs0.out).1).trans hs0.out
  · exact hA.out.alloc (by simp) _
set_option maxRecDepth 10000 in
set_option maxHeartbeats 1000000 in
theorem rcut_any (B b n sb : Nat) (L : List UInt8) (pv : Value) (S : RW.Dk) (k : Int) (hk : k ≤ 9223372036854775807) (w : World) (h : RefAt w B b n sb L pv S) :
    Calls Tryz.prog 71 #[.pointer (some ⟨b, 0, none⟩), .int .i64 k] w fun e w' => e = .returned (.int .i64 (S.cut k).1) ∧ RefAt w' B b n sb L pv (S.cut k).2 ∧ RFr b sb w sb w' ∧ Below B w w' := by
  have hH := hide h
  obtain ⟨r, hr⟩ : ∃ r, r = S.cut k := ⟨_, rfl⟩
  rw [← hr]
  rw [RW.Dk.cut] at hr
  have c2 : w.cell? ⟨b, 2, none⟩ = some (.bool S.off) := cellAt h.row 2
  have c3 : w.cell? ⟨b, 3, none⟩ = some (.int .i64 (S.left : Int)) := cellAt h.row 3
  have f2 : w.frozen? ⟨b, 2, none⟩ = false := by simp [World.frozen?, h.row]
  have f3 : w.frozen? ⟨b, 3, none⟩ = false := by simp [World.frozen?, h.row]
  cases hoff : S.off
  · rw [hoff, if_neg Bool.false_ne_true] at hr
    rw [hoff] at c2
    have hoffH := hide hoff
    by_cases hk0 : k < 0
    · rw [if_pos hk0] at hr
      have hrH := hide hr
      clear hr h hoff
      go_enter Tryz.func71, Tryz.ntmps71
      go_wp2
      go_ret
      exact ⟨by rw [hrH.out] <;> rfl, by rw [hrH.out]; exact hH.out, RFr.refl _ _ _, Below.refl _ _⟩
    · rw [if_neg hk0] at hr
      have hrH := hide hr
      clear hr h hoff
      go_enter Tryz.func71, Tryz.ntmps71
      go_wp2
      go_ret
      have hkb : (k == 0) = decide (k = 0) := by
        by_cases h : k = 0
        · subst h; rfl
        · rw [decide_eq_false h, beq_eq_false_iff_ne]; exact h
      have hkn : ((k.toNat : Nat) : Int) = k := Int.toNat_of_nonneg (by omega)
      obtain ⟨k1, k2, k3⟩ := hH.out.rowChg (off := decide (k = 0)) (left := k.toNat) (v := S.vis) (W' := (w.setCell ⟨b, 3, none⟩ (.int .i64 k)).setCell ⟨b, 2, none⟩ (.bool (k == 0))) ((heap_setCell_same _ _ _ _ _ _ (heap_setCell_same _ _ _ _ _ _ hH.out.row)).trans (by rw [hkn, ← hkb]; rfl)) (((Chg.refl b w).set _).set _) (by rw [hkn]; exact hk)
      exact ⟨by rw [hrH.out] <;> rfl, by rw [hrH.out]; exact k1, k2, k3⟩
  · rw [hoff, if_pos rfl] at hr
    rw [hoff] at c2
    have hrH := hide hr
    clear hr h hoff
    go_enter Tryz.func71, Tryz.ntmps71
    go_wp2
    go_ret
    exact ⟨by rw [hrH.out] <;> rfl, by rw [hrH.out]; exact hH.out, RFr.refl _ _ _, Below.refl _ _⟩
section
variable {ev : Operand → Value} {o : Oper} {x y : Operand} {w : World}
theorem op_fa_r {b i : Nat} (hi : i < 4) (ho : o.op = .fieldAddr 67 x i) (hx : ev x = .pointer (some ⟨b, 0, none⟩)) : (execOp ev o).run Tryz.prog w = .ok (.value (.pointer (some ⟨b, i, none⟩))) w := by
  rcases i with _ | _ | _ | _ | i
  all_goals first | omega | skip
  all_goals
    unfold execOp
    rw [ho]
    simp only [hx]
    go_simp
theorem op_load_cs {b i : Nat} {p : Option Addr} {n c : Nat} (ho : o.op = .load 65 x) (hx : ev x = .pointer (some ⟨b, i, none⟩)) (hc : w.cell? ⟨b, i, none⟩ = some (.slice p n c)) : (execOp ev o).run Tryz.prog w = .ok (.value (.slice p n c)) w := by
  unfold execOp
  rw [ho]
  simp only [hx]
  go_simp
theorem op_idx_ch {b ao i n c : Nat} (ho : o.op = .indexAddr 65 x y) (hx : ev x = .slice (some ⟨b, ao, none⟩) n c) (hy : ev y = .int .i64 i) (hi : i < n) : (execOp ev o).run Tryz.prog w = .ok (.value (.pointer (some ⟨b, ao + i * 2, none⟩))) w := by
  unfold execOp
  rw [ho]
  simp only [hx, hy]
  go_simp
theorem op_fa_c0 {b i : Nat} (ho : o.op = .fieldAddr 111 x 0) (hx : ev x = .pointer (some ⟨b, i, none⟩)) : (execOp ev o).run Tryz.prog w = .ok (.value (.pointer (some ⟨b, i, none⟩))) w := by
  unfold execOp
  rw [ho]
  simp only [hx]
  go_simp
theorem op_fa_c1 {b i : Nat} (ho : o.op = .fieldAddr 111 x 1) (hx : ev x = .pointer (some ⟨b, i, none⟩)) : (execOp ev o).run Tryz.prog w = .ok (.value (.pointer (some ⟨b, i + 1, none⟩))) w := by
  unfold execOp
  rw [ho]
  simp only [hx]
  go_simp
end
theorem rowV_cell2 {W : World} {a : Option Addr} {g o k c : Nat} {l : List (Nat × ByteArray)} (h : RowV 2 RW.wrl W (.slice (some ⟨g, o, none⟩) k c) l) (j : Nat) (x : Nat × ByteArray) (hx : l[j]? = some x) : W.cell? ⟨g, o + j * 2, none⟩ = some (.int .i64 (x.1 : Int)) ∧ W.cell? ⟨g, o + j * 2 + 1, none⟩ = some (.string x.2) := by
  obtain ⟨a', c', he, _, ha⟩ := h
  injection he with e1 _ _
  subst e1
  obtain ⟨b', o', e, _, hc⟩ := ha.resolve_left (by rintro rfl; simp at hx)
  cases e
  exact ⟨hc j x hx 0 _ rfl, hc j x hx 1 _ rfl⟩
theorem RefAt.cells {W : World} {B b n sb g o k c : Nat} {L : List UInt8} {S : RW.Dk} (h : RefAt W B b n sb L (.slice (some ⟨g, o, none⟩) k c) S) (j : Nat) (x : Nat × ByteArray) (hx : S.pend[j]? = some x) : W.cell? ⟨g, o + j * 2, none⟩ = some (.int .i64 (x.1 : Int)) ∧ W.cell? ⟨g, o + j * 2 + 1, none⟩ = some (.string x.2) :=
  rowV_cell2 (a := none) (rowV_own (enc := RW.wrl) wrl_len (by decide) h.pend) j x hx
theorem replay_len : ∀ (p : List (Nat × ByteArray)) (d : List UInt8) (n : Nat), d.length = n → (∀ x ∈ p, x.1 + x.2.size ≤ n) → (RW.replay p d).length = n
  | [], d, n, hd, _ => hd
  | x :: p, d, n, hd, h => replay_len p _ n (by rw [lay_len (by rw [hd, Array.length_toList]; exact h x (List.mem_cons_self ..)), hd]) (fun y hy => h y (List.mem_cons_of_mem _ hy))
set_option maxRecDepth 10000 in
set_option maxHeartbeats 1000000 in
theorem visible_any (B b n sb : Nat) (L : List UInt8) (pv : Value) (S : RW.Dk) (hn1 : 1 ≤ n) (hok : S.ok n) (hpl : S.pend.length ≤ 1000000) (w : World) (h : RefAt w B b n sb L pv S) :
    Calls Tryz.prog 24 #[.pointer (some ⟨b, 0, none⟩)] w fun e w' => ∃ g L', e = .returned (.slice (some ⟨g, 0, none⟩) n L'.length) ∧ w'.heap[g]? = some (.cells (RW.byl L').toArray 5 (0, 0)) ∧ L'.take n = RW.replay S.pend S.dur ∧ n ≤ L'.length ∧ w.heap.size ≤ g ∧ Below w.heap.size w w' := by
  obtain ⟨ap, cp, rfl⟩ := h.form
  obtain ⟨kp, hkp⟩ : ∃ k, k = S.pend.length := ⟨_, rfl⟩
  rw [← hkp] at h hpl
  have hH := hide h
  have hokH := hide hok
  have hkpH := hide hkp
  have c0 : w.cell? ⟨b, 0, none⟩ = some (.slice (some ⟨sb, 0, none⟩) n L.length) := cellAt h.row 0
  have hlt := h.lt.1
  obtain ⟨L', hrun, hL1, hL2⟩ := run_app_vis 39 (w.alloc (.cells #[] 5)) L sb w.heap.size n L.length hn1 h.hn h.ln ((Below.heap_alloc _ _ _ h.lt.2).trans h.sure)
  have hL1H := hide (hL1.trans h.ld)
  have hA := hide (((Below.refl w.heap.size w).alloc (Nat.le_refl _) (.cells #[] 5)).drew.alloc (by simp) (.cells (RW.byl L').toArray 5))
  obtain ⟨g, hg⟩ : ∃ g, g = (w.alloc (.cells #[] 5)).heap.size := ⟨_, rfl⟩
  have hgl := hide (show w.heap.size ≤ g by rw [hg]; simp)
  have hg0 := hide (show ((w.alloc (.cells #[] 5)).drew.alloc (.cells (RW.byl L').toArray 5)).heap[g]? = some (.cells (RW.byl L').toArray 5 (0, 0)) from newAt hg)
  rw [← hg] at hrun
  clear h hok hkp hL1 hg
  go_enter Tryz.func24, Tryz.ntmps24
  go_upto_region 2 with (at_builtin; refine wpList_app_run rfl (.tmp 5) (.tmp 9) rfl rfl rfl hrun ?_)
  obtain ⟨c, hc⟩ : ∃ c, c = L'.length := ⟨_, rfl⟩
  refine gen_w (fun W => W.heap[g]? = some (.cells (RW.byl L').toArray 5 (0, 0)) ∧ Below w.heap.size w W) ⟨hg0.out, hA.out⟩ ?_
  rw [← hc]
  rintro w1 ⟨g1, g2⟩
  have hg1 := hide g1
  have hB1 := hide g2
  have hcH := hide hc
  have hL2H := hide hL2
  clear g1 g2 hrun hg0 hA c0 hlt hc hL2
  go_wp2
  go_loopw [4] (fun i wr => ∃ j : Nat, i = .int .i64 j ∧ j ≤ kp ∧ Hid (∃ Lj, wr.heap[g]? = some (.cells (RW.byl Lj).toArray 5 (0, 0)) ∧ Lj.length = c ∧ Lj.take n = RW.replay (S.pend.take j) S.dur ∧ RefAt wr B b n sb L (.slice ap kp cp) S ∧ Below w.heap.size w wr)) (fun i _ => kp - (intOf i).toNat)
  case atStart => exact ⟨0, rfl, Nat.zero_le _, L', hg1.out, hcH.out.symm, hL1H.out, hH.out.next hB1.out, hB1.out⟩
  case round =>
    obtain ⟨j, rfl, hj, hQ⟩ := hrel
    obtain ⟨wo, hwo⟩ : ∃ wo, wo = wr := ⟨_, rfl⟩
    subst hwo
    obtain ⟨Lj, hgj0, hcj0, htj0, hRj0, hBj0⟩ := hQ.out
    have hgj := hide hgj0
    have hcj := hide hcj0
    have htj := hide htj0
    have hRj := hide hRj0
    have hBj := hide hBj0
    have c1 : wo.cell? ⟨b, 1, none⟩ = some (.slice ap kp cp) := cellAt hRj0.row 1
    clear hg1 hB1 hQ hgj0 hcj0 htj0 hRj0 hBj0
    by_cases hlt : j < kp
    · have hltH := hide hlt
      obtain ⟨x, hx⟩ : ∃ x, S.pend[j]? = some x := ⟨_, List.getElem?_eq_getElem (by rw [← hkpH.out]; exact hlt)⟩
      have hxp := hide hx
      have hbx := hide (hokH.out x (List.mem_of_getElem? hx))
      have hlj := hide (show n ≤ Lj.length by rw [hcj.out, hcH.out]; exact hL2H.out)
      obtain ⟨pg, po, cap, he, _, _, _⟩ := (rowV_own (enc := RW.wrl) wrl_len (by decide) hRj.out.pend).at (by rintro e; rw [e] at hx; simp at hx)
      obtain ⟨rfl, rfl⟩ : ap = some ⟨pg, po, none⟩ ∧ cp = cap := by injection he; exact ⟨by assumption, by assumption⟩
      have hgn := hide (show b ≠ g ∧ sb ≠ g ∧ ∀ k, (Value.slice (some ⟨pg, po, none⟩) kp cp).ownBlock = some k → k ≠ g from
        ⟨Nat.ne_of_lt (Nat.lt_of_lt_of_le hH.out.lt.1 hgl.out), Nat.ne_of_lt (Nat.lt_of_lt_of_le hH.out.lt.2 hgl.out), fun k hk => Nat.ne_of_lt (Nat.lt_of_lt_of_le (hH.out.pend.lt k hk).2 hgl.out)⟩)
      clear hx he
      go_upto_region 5 with fail
      refine wp_region_k (fun _ W => RefAt W B b n sb L (.slice (some ⟨pg, po, none⟩) kp cp) S) (fun W => W.heap[g]? = some (.cells (RW.byl Lj).toArray 5 (0, 0)) ∧ Below w.heap.size w W) [17] (.op 0 (.op 1 (.op 2 (.op 3 (.op 4 (.op 5 (.op 6 (.op 7 (.op 8 (.op 9 (.op 10 (.op 11 (.op 12 (.op 13 (.op 14 (.op 15 (.op 16 (.op 17 .nil)))))))))))))))))) (by kernel_rfl) (by kernel_rfl) (by rfl) (by kernel_rfl) (hRj.out.next (Below.refl _ _).drew) ⟨hgj.out, hBj.out.drew⟩ ?_
      refine k_val (.slice (some ⟨g, 0, none⟩) n c) (by apply opN; repeat' (first | apply OpAt.z | apply OpAt.s)) (by rfl) (by rfl) (fun _ W hS => op_mv rfl rfl) ?_
      simp only [Act.put, List.setIfInBounds_toArray, List.set_cons_zero, List.set_cons_succ]
      refine k_val (.pointer (some ⟨b, 0, none⟩)) (by apply opN; repeat' (first | apply OpAt.z | apply OpAt.s)) (by rfl) (by rfl) (fun _ W hS => op_mv rfl rfl) ?_
      simp only [Act.put, List.setIfInBounds_toArray, List.set_cons_zero, List.set_cons_succ]
      refine k_val (.pointer (some ⟨b, 0, none⟩)) (by apply opN; repeat' (first | apply OpAt.z | apply OpAt.s)) (by rfl) (by rfl) (fun _ W hS => op_nc rfl rfl) ?_
      simp only [Act.put, List.setIfInBounds_toArray, List.set_cons_zero, List.set_cons_succ]
      refine k_val (.pointer (some ⟨b, 1, none⟩)) (by apply opN; repeat' (first | apply OpAt.z | apply OpAt.s)) (by rfl) (by rfl) (fun _ W hS => op_fa_r (by decide) rfl rfl) ?_
      simp only [Act.put, List.setIfInBounds_toArray, List.set_cons_zero, List.set_cons_succ]
      refine k_val (.slice (some ⟨pg, po, none⟩) kp cp) (by apply opN; repeat' (first | apply OpAt.z | apply OpAt.s)) (by rfl) (by rfl) (fun _ W hS => op_load_cs rfl rfl (cellAt hS.row 1)) ?_
      simp only [Act.put, List.setIfInBounds_toArray, List.set_cons_zero, List.set_cons_succ]
      refine k_val (.int .i64 (j : Int)) (by apply opN; repeat' (first | apply OpAt.z | apply OpAt.s)) (by rfl) (by rfl) (fun _ W hS => op_mv rfl rfl) ?_
      simp only [Act.put, List.setIfInBounds_toArray, List.set_cons_zero, List.set_cons_succ]
      refine k_val (.pointer (some ⟨pg, po + j * 2, none⟩)) (by apply opN; repeat' (first | apply OpAt.z | apply OpAt.s)) (by rfl) (by rfl) (fun _ W hS => op_idx_ch rfl rfl rfl hlt) ?_
      simp only [Act.put, List.setIfInBounds_toArray, List.set_cons_zero, List.set_cons_succ]
      refine k_val (.pointer (some ⟨pg, po + j * 2, none⟩)) (by apply opN; repeat' (first | apply OpAt.z | apply OpAt.s)) (by rfl) (by rfl) (fun _ W hS => op_fa_c0 rfl rfl) ?_
      simp only [Act.put, List.setIfInBounds_toArray, List.set_cons_zero, List.set_cons_succ]
      refine k_val (.int .i64 (x.1 : Int)) (by apply opN; repeat' (first | apply OpAt.z | apply OpAt.s)) (by rfl) (by rfl) (fun _ W hS => op_load_int rfl rfl (hS.cells j x hxp.out).1) ?_
      simp only [Act.put, List.setIfInBounds_toArray, List.set_cons_zero, List.set_cons_succ]
      refine k_val (.pointer (some ⟨b, 0, none⟩)) (by apply opN; repeat' (first | apply OpAt.z | apply OpAt.s)) (by rfl) (by rfl) (fun _ W hS => op_mv rfl rfl) ?_
      simp only [Act.put, List.setIfInBounds_toArray, List.set_cons_zero, List.set_cons_succ]
      refine k_val (.pointer (some ⟨b, 0, none⟩)) (by apply opN; repeat' (first | apply OpAt.z | apply OpAt.s)) (by rfl) (by rfl) (fun _ W hS => op_nc rfl rfl) ?_
      simp only [Act.put, List.setIfInBounds_toArray, List.set_cons_zero, List.set_cons_succ]
      refine k_val (.pointer (some ⟨b, 1, none⟩)) (by apply opN; repeat' (first | apply OpAt.z | apply OpAt.s)) (by rfl) (by rfl) (fun _ W hS => op_fa_r (by decide) rfl rfl) ?_
      simp only [Act.put, List.setIfInBounds_toArray, List.set_cons_zero, List.set_cons_succ]
      refine k_val (.slice (some ⟨pg, po, none⟩) kp cp) (by apply opN; repeat' (first | apply OpAt.z | apply OpAt.s)) (by rfl) (by rfl) (fun _ W hS => op_load_cs rfl rfl (cellAt hS.row 1)) ?_
      simp only [Act.put, List.setIfInBounds_toArray, List.set_cons_zero, List.set_cons_succ]
      refine k_val (.int .i64 (j : Int)) (by apply opN; repeat' (first | apply OpAt.z | apply OpAt.s)) (by rfl) (by rfl) (fun _ W hS => op_mv rfl rfl) ?_
      simp only [Act.put, List.setIfInBounds_toArray, List.set_cons_zero, List.set_cons_succ]
      refine k_val (.pointer (some ⟨pg, po + j * 2, none⟩)) (by apply opN; repeat' (first | apply OpAt.z | apply OpAt.s)) (by rfl) (by rfl) (fun _ W hS => op_idx_ch rfl rfl rfl hlt) ?_
      simp only [Act.put, List.setIfInBounds_toArray, List.set_cons_zero, List.set_cons_succ]
      refine k_val (.pointer (some ⟨pg, po + j * 2 + 1, none⟩)) (by apply opN; repeat' (first | apply OpAt.z | apply OpAt.s)) (by rfl) (by rfl) (fun _ W hS => op_fa_c1 rfl rfl) ?_
      simp only [Act.put, List.setIfInBounds_toArray, List.set_cons_zero, List.set_cons_succ]
      refine k_val (.string x.2) (by apply opN; repeat' (first | apply OpAt.z | apply OpAt.s)) (by rfl) (by rfl) (fun _ W hS => op_load_str rfl rfl (hS.cells j x hxp.out).2) ?_
      simp only [Act.put, List.setIfInBounds_toArray, List.set_cons_zero, List.set_cons_succ]
      refine k_step (fun K' u => K' = fun W => W.heap[g]? = some (.cells (RW.byl (RW.lay Lj x.1 x.2.data.toList)).toArray 5 (0, 0)) ∧ Below w.heap.size w W) (by apply opN; repeat' (first | apply OpAt.z | apply OpAt.s)) (by rfl) (by rfl) (by rfl) (fun W hC hK => ?_) ?_
      · refine op_x3 rfl rfl rfl rfl rfl (fun _ _ => rfl) ((apply_any g n c Lj x.1 x.2 hH.out.hn hlj.out hbx.out W hK.1).mono ?_)
        rintro e W' ⟨⟨v, rfl⟩, h1, h2⟩
        exact ⟨_, rfl, hC.keep fun k hk hq => h2.block k hk (by rcases hq with e | e | e; exact e ▸ hgn.out.1; exact e ▸ hgn.out.2.1; exact hgn.out.2.2 k e), _, ⟨h1, hK.2.trans (h2.below hgl.out hK.2.size)⟩, rfl⟩
      rintro _ _ rfl
      simp only [Act.put, List.setIfInBounds_toArray, List.set_cons_zero, List.set_cons_succ]
      refine k_nil ?_
      intro W hC hK
      have hCH := hide hC
      have hKH := hide hK
      clear hC hK
      go_wp2
      go_roundw
      case rel => exact ⟨j + 1, by go_num, hltH.out, RW.lay Lj x.1 x.2.data.toList, hKH.out.1, by rw [lay_len (by rw [Array.length_toList]; exact Nat.le_trans hbx.out hlj.out)]; exact hcj.out, by rw [RW.lay_take (by rw [Array.length_toList]; exact hbx.out) hlj.out, htj.out, List.take_add_one, hxp.out]; exact (RW.replay_snoc _ _ _).symm, hCH.out, hKH.out.2⟩
      case measure => have := hltH.out; simp [intOf]; omega
    · obtain rfl : j = kp := by omega
      go_wp2
      go_ret
      exact ⟨g, Lj, by rw [hcj.out] <;> rfl, hgj.out, by rw [htj.out, List.take_of_length_le (by rw [hkpH.out]; exact Nat.le_refl _)], by rw [hcj.out, hcH.out]; exact hL2H.out, hgl.out, hBj.out⟩
end Go.Proofs.YtllbphanfahkkaaGreatDoor

/-
  digest.words.add: one block goes into the eight words; beside them only new memory is written.
-/
import Derived.Laws.CopyOwn
import Derived.Test.YtllbphanfahkkaaDoorSha2
namespace Go.Proofs.YtllbphanfahkkaaDoor
open Go.RowKit
theorem run_index_agg {P : Program} (t e : TypeId) (n : Nat) (cs : Array Value) (k : IntKind) (i : Nat) (ii : IntKind) (v : Value) (ht : P.underlying t = some (.array n e)) (he : P.underlying e = some (.int ii)) (hs : (P.info? e).map (·.size) = some 1)
    (hi : i < n) (hc : cs[i]? = some v) (w : World) : (Instr.index t (.agg cs) (.int k (i : Int))).run P w = .ok v w := by
  cases hq : P.info? e with
  | none => simp [hq] at hs
  | some inf =>
    have h1 : inf.size = 1 := by simpa [hq] using hs
    simp [Instr.index, asIntOf, run_underlying ht, hi, part, isAgg, run_underlying he, sizeOf, typeInfo, hq, h1, hc]
namespace RW
/-- the words of a state, as cells -/
def vrow (V : Nat → Int) : Array Value := #[.int .u32 (V 0), .int .u32 (V 1), .int .u32 (V 2), .int .u32 (V 3), .int .u32 (V 4), .int .u32 (V 5), .int .u32 (V 6), .int .u32 (V 7)]
theorem vrow_one (V : Nat → Int) : (vrow V).all (·.oneCell') = true := by simp [vrow, Value.oneCell']
def tOf (V : Nat → Int) (k x : Int) : Int :=
  V 7 + mixF (V 4) [6, 11, 25] + bits .xor .u32 (bits .and .u32 (V 4) (V 5)) (bits .and .u32 (bits .xor .u32 IntKind.u32.max (V 4)) (V 6)) + k + x
def uOf (V : Nat → Int) : Int :=
  mixF (V 0) [2, 13, 22] + bits .xor .u32 (bits .xor .u32 (bits .and .u32 (V 0) (V 1)) (bits .and .u32 (V 0) (V 2))) (bits .and .u32 (V 1) (V 2))
def vstep (V : Nat → Int) (k x : Int) : Nat → Int
  | 0 => (tOf V k x + uOf V) % 4294967296
  | 1 => V 0
  | 2 => V 1
  | 3 => V 2
  | 4 => (V 3 + tOf V k x) % 4294967296
  | 5 => V 4
  | 6 => V 5
  | _ => V 6
def comp (H K W : Nat → Int) : Nat → Nat → Int
  | 0 => H
  | i + 1 => vstep (comp H K W i) (K i) (W i)
theorem vrow_get (X : Nat → Int) (j : Nat) (h : j < 8) : (vrow X)[j]? = some (.int .u32 (X j)) := by
  match j, h with
  | 0, _ => rfl
  | 1, _ => rfl
  | 2, _ => rfl
  | 3, _ => rfl
  | 4, _ => rfl
  | 5, _ => rfl
  | 6, _ => rfl
  | 7, _ => rfl
theorem vrow_set (X Y : Nat → Int) (j : Nat) (v : Int) (h : j < 8) (hj : Y j = v) (ho : ∀ i, i < 8 → i ≠ j → Y i = X i) : (vrow X).setIfInBounds j (.int .u32 v) = vrow Y := by
  apply Array.ext_getElem?
  intro i
  by_cases hi : i < 8
  · rw [Array.getElem?_setIfInBounds, vrow_get Y i hi]
    by_cases hij : j = i
    · subst hij; rw [if_pos rfl, if_pos (show j < (vrow X).size from h), hj]
    · rw [if_neg hij, vrow_get X i hi, ho i hi (by omega)]
  · rw [Array.getElem?_eq_none (by simp [vrow]; omega), Array.getElem?_eq_none (by simp [vrow]; omega)]
def hnew (H K W : Nat → Int) (j : Nat) : Int := (H j + comp H K W 64 j) % 4294967296
/-- the first j words are already new -/
def hrow (H K W : Nat → Int) (n j : Nat) : Int := if j < n then hnew H K W j else H j
def WsOk (ws : Array Value) (W : Nat → Int) : Prop := ws.size = 64 ∧ ∀ i, i < 64 → ws[i]? = some (.int .u32 (W i))
theorem wsOk_range (W : Nat → Int) : WsOk (((List.range 64).map fun j => Value.int .u32 (W j)).toArray) W := by
  refine ⟨by simp, fun i hi => ?_⟩
  simp [hi]
theorem WsOk.one {ws : Array Value} {W : Nat → Int} (h : WsOk ws W) : ws.all (·.oneCell') = true := by
  rw [Array.all_eq_true]; intro i hi
  have := h.2 i (by have := h.1; omega)
  rw [Array.getElem?_eq_getElem hi] at this
  simp at this; rw [this]; rfl
theorem WsOk.get {ws : Array Value} {W : Nat → Int} (h : WsOk ws W) (i : Nat) (hi : i < 64) : ws[i]? = some (.int .u32 (W i)) := h.2 i hi
theorem laid_row {B : Nat} {w w1 w2 : World} {z cs : Array Value} {t : TypeId} (h : Below B w w1) (hB : B ≤ w1.heap.size) (e : w2 = (w1.alloc (.cells z t)).setRow w1.heap.size cs) :
    Below B w w2 ∧ w2.heap[w1.heap.size]? = some (.cells cs t (0, 0)) ∧ w2.heap.size = w1.heap.size + 1 := by
  subst e
  exact ⟨below_setRow (h.alloc hB _) hB _, setRow_heap _ _ _ _ _ _ (heap_alloc_new w1 _), by simp [World.setRow]⟩
theorem laid_old {w1 w2 : World} {z cs : Array Value} {t : TypeId} {i : Nat} (e : w2 = (w1.alloc (.cells z t)).setRow w1.heap.size cs) (hi : i < w1.heap.size) : w2.heap[i]? = w1.heap[i]? := by
  subst e
  simp only [World.setRow, Array.getElem?_modify]
  rw [if_neg (by omega)]; exact Below.heap_alloc w1 _ i hi
theorem two_sets (w : World) (g : Nat) (cs : Array Value) (t : TypeId) (i j : Nat) (h : w.heap[g]? = some (.cells cs t (0, 0))) (u v : Value) :
    ((w.setCell ⟨g, i, none⟩ u).setCell ⟨g, j, none⟩ v).heap[g]? = some (.cells ((cs.setIfInBounds i u).setIfInBounds j v) t (0, 0)) :=
  heap_setCell_same _ g j _ t v (heap_setCell_same w g i cs t u h)
end RW
def KLaid (w : World) (ks : Array Value) : Prop := ∃ t fr, w.heap[4]? = some (.cells ks t fr)
set_option maxRecDepth 10000 in
set_option maxHeartbeats 2000000 in
theorem add_any (H K : Nat → Int) (b : Nat → Int) (g ab ao : Nat) (cap : Nat) (ks : Array Value) (hb : ∀ i, i < 64 → 0 ≤ b i ∧ b i ≤ 255) (w : World) (hab : ab < w.heap.size)
    (hc : ∀ i, i < 64 → w.cell? ⟨ab, ao + i, none⟩ = some (.int .u8 (b i))) (hK : KLaid w ks) (hks : RW.WsOk ks K)
    (hH : w.heap[g]? = some (.cells (RW.vrow H) 139 (0, 0))) :
    Calls Tryd.prog 79 #[.pointer (some ⟨g, 0, none⟩), .slice (some ⟨ab, ao, none⟩) 64 cap] w fun e w' => e = .returned (.tuple #[]) ∧ w'.heap[g]? = some (.cells (RW.vrow (RW.hnew H K (RW.wf b))) 139 (0, 0)) ∧ w.grownBy w' (some g) := by
  have hgl : g < w.heap.size := (Array.getElem?_eq_some_iff.1 hH).1
  obtain ⟨tk, fk, hKh⟩ := hK
  have hsch := hide (schedule_any b ab ao cap hb w hab hc)
  have hi114 : (Tryd.prog.info? 147).map (·.size) = some 64 := by kernel_rfl
  have hi96 : (Tryd.prog.info? 139).map (·.size) = some 8 := by kernel_rfl
  have hgk : 4 < w.heap.size := (Array.getElem?_eq_some_iff.1 hKh).1
  go_enter Tryd.func79, Tryd.ntmps79
  go_wp2_with (first | (go_at_call 85; refine hsch.out.mono ?_; rintro e w1 ⟨rfl, hB1⟩; obtain ⟨ws, hws⟩ : ∃ ws : Array Value, ws = (((List.range 64).map fun j => Value.int .u32 (RW.wf b j)).toArray) := ⟨_, rfl⟩; rw [← hws]; have hwo := RW.wsOk_range (RW.wf b); rw [← hws] at hwo; clear hws) | (refine wpList_store_row rfl 147 (.tmp 4) (.tmp 14) rfl w1.heap.size ws rfl rfl 147 _ (heap_alloc_new _ _) (by rw [hwo.1]; exact hi114) (by rw [hwo.1]; rfl) hwo.one ?_; generalize hw2 : World.setRow _ _ _ = w2; obtain ⟨hB2, hx2, hs2'⟩ := RW.laid_row hB1 hB1.size hw2.symm; have hs2 : w1.heap.size < w2.heap.size := (by omega); clear hs2'; clear hw2; have hH2 := (hB2.block g hgl).trans hH; have hK2 := (hB2.block 4 hgk).trans hKh) | (refine wpList_load_row rfl 139 (.tmp 16) rfl g rfl 139 (RW.vrow H) (0, 0) _ hH2 Tryd.underlying139 rfl hi96 ?_) | (refine wpList_store_row rfl 139 (.tmp 5) (.tmp 17) rfl w2.heap.size (RW.vrow H) rfl rfl 139 _ (heap_alloc_new _ _) hi96 rfl (RW.vrow_one H) ?_; generalize hw3 : World.setRow _ _ _ = w3; obtain ⟨hB3, hx3, hs3'⟩ := RW.laid_row hB2 hB2.size hw3.symm; have hs3 : w2.heap.size < w3.heap.size := (by omega); clear hs3'; have hws3 : w3.heap[w1.heap.size]? = _ := (RW.laid_old hw3.symm (by omega)).trans hx2; clear hw3; have hK3 := (hB3.block 4 hgk).trans hKh) | (refine wpList_load_row rfl 147 (.global 4) rfl 4 rfl tk ks fk _ hK3 Tryd.underlying147 rfl (by rw [hks.1]; exact hi114) ?_))
  have hu94 : (Tryd.prog.info? 137).map (·.size) = some 1 := by kernel_rfl
  clear hsch hK3 hK2 hH2 hx2 hi96 hi114
  go_loopw [19] (fun i wr => ∃ k : Nat, k ≤ 64 ∧ i = .int .i64 k ∧ wr.heap[w2.heap.size]? = some (.cells (RW.vrow (RW.comp H K (RW.wf b) k)) 139 (0, 0)) ∧ wr.heap[w1.heap.size]? = some (.cells ws 147 (0, 0)) ∧ Below w.heap.size w wr)
    (fun i _ => 64 - (intOf i).toNat)
  case atStart => exact ⟨0, Nat.zero_le _, rfl, hx3, hws3, hB3⟩
  case round =>
    clear hx3 hws3 hB3 hc
    obtain ⟨k, hk, rfl, hv, hw, hB⟩ := hrel
    by_cases hlt : k < 64
    · have hix := fun w' => run_index_agg (P := Tryd.prog) 147 137 64 ks .i64 k .u32 (.int .u32 (K k)) Tryd.underlying147 Tryd.underlying137 hu94 hlt (hks.get k hlt) w'
      obtain ⟨V, hV⟩ : ∃ V, V = RW.comp H K (RW.wf b) k := ⟨_, rfl⟩
      have hVs : RW.comp H K (RW.wf b) (k + 1) = RW.vstep V (K k) (RW.wf b k) := by rw [hV]; rfl
      rw [← hV] at hv
      have hVsH := hide hVs
      clear hVs hV
      have c0 : wr.cell? ⟨w2.heap.size, 0, none⟩ = some (.int .u32 (V 0)) := cell_of_row wr w2.heap.size 0 _ _ _ hv
      have c4 : wr.cell? ⟨w2.heap.size, 4, none⟩ = some (.int .u32 (V 4)) := cell_of_row wr w2.heap.size 4 _ _ _ hv
      have hvH := hide hv
      have hwH := hide hw
      clear hv hw
      go_wp2
      go_quiet (fail)
      go_wp2
      generalize hd : wr.drewN _ = wd
      have hv : wd.heap[w2.heap.size]? = some (.cells (RW.vrow V) 139 (0, 0)) := by rw [← hd]; exact hvH.out
      have hw : wd.heap[w1.heap.size]? = some (.cells ws 147 (0, 0)) := by rw [← hd]; exact hwH.out
      have hBd : Below w.heap.size w wd := by rw [← hd]; exact ⟨hB.os, hB.tape, hB.output, hB.size, hB.block⟩
      clear hd hvH hwH hB c0 c4 hix
      have c1 : wd.cell? ⟨w2.heap.size, 1, none⟩ = some (.int .u32 (V 1)) := cell_of_row wd w2.heap.size 1 _ _ _ hv
      have c2 : wd.cell? ⟨w2.heap.size, 2, none⟩ = some (.int .u32 (V 2)) := cell_of_row wd w2.heap.size 2 _ _ _ hv
      have c5 : wd.cell? ⟨w2.heap.size, 5, none⟩ = some (.int .u32 (V 5)) := cell_of_row wd w2.heap.size 5 _ _ _ hv
      have c6 : wd.cell? ⟨w2.heap.size, 6, none⟩ = some (.int .u32 (V 6)) := cell_of_row wd w2.heap.size 6 _ _ _ hv
      have c7 : wd.cell? ⟨w2.heap.size, 7, none⟩ = some (.int .u32 (V 7)) := cell_of_row wd w2.heap.size 7 _ _ _ hv
      have cw : wd.cell? ⟨w1.heap.size, k, none⟩ = some (.int .u32 (RW.wf b k)) := (cell_of_row wd w1.heap.size k _ _ _ hw).trans (hwo.get k hlt)
      have qk : (k : Int) < 64 := by omega
      have lv : w2.heap.size < wd.heap.size := (Array.getElem?_eq_some_iff.1 hv).1
      have hvH := hide hv
      have hwH := hide hw
      clear hv hw
      go_region_held3 (fun w' => w'.cell? ⟨w2.heap.size, 7, none⟩ = some (.int .u32 (V 7)) ∧ w'.cell? ⟨w2.heap.size, 5, none⟩ = some (.int .u32 (V 5)) ∧ w'.cell? ⟨w2.heap.size, 6, none⟩ = some (.int .u32 (V 6)) ∧ w'.cell? ⟨w1.heap.size, k, none⟩ = some (.int .u32 (RW.wf b k)))
        (go_keep) (first | ((with_reducible refine (mixed3 (V 4) 6 11 25 _ 3 (by decide) _ ?_ ?_ ?_).mono ?_); (simp); (simp); (simp); rintro e w' ⟨rfl, rfl⟩))
      go_wp2
      generalize hd2 : World.drew _ = we
      have hBe : Below wd.heap.size wd we := by rw [← hd2]; exact ((Below.refl _ _).alloc (Nat.le_refl _) _).drew
      clear hd2 c5 c6 c7 cw
      have lw : w1.heap.size < wd.heap.size := by omega
      have hv := (hBe.block w2.heap.size lv).trans hvH.out
      have hw := (hBe.block w1.heap.size lw).trans hwH.out
      have hBw : Below w.heap.size w we := hBd.trans (hBe.mono hBd.size)
      have lve : w2.heap.size < we.heap.size := by have := hBe.size; omega
      clear c1 c2 hvH hwH
      have c1 : we.cell? ⟨w2.heap.size, 1, none⟩ = some (.int .u32 (V 1)) := cell_of_row we w2.heap.size 1 _ _ _ hv
      have c2 : we.cell? ⟨w2.heap.size, 2, none⟩ = some (.int .u32 (V 2)) := cell_of_row we w2.heap.size 2 _ _ _ hv
      have hvH := hide hv
      have hwH := hide hw
      clear hv hw
      go_region_held3 (fun w' => w'.cell? ⟨w2.heap.size, 1, none⟩ = some (.int .u32 (V 1)) ∧ w'.cell? ⟨w2.heap.size, 2, none⟩ = some (.int .u32 (V 2)))
        (go_keep) (first | ((with_reducible refine (mixed3 (V 0) 2 13 22 _ 3 (by decide) _ ?_ ?_ ?_).mono ?_); (simp); (simp); (simp); rintro e w' ⟨rfl, rfl⟩))
      go_wp2
      generalize hd3 : World.drew _ = wf
      have hBf : Below we.heap.size we wf := by rw [← hd3]; exact ((Below.refl _ _).alloc (Nat.le_refl _) _).drew
      clear hd3 c1 c2
      have hv := (hBf.block w2.heap.size lve).trans hvH.out
      have hw := (hBf.block w1.heap.size (by omega)).trans hwH.out
      have hB := hBw.trans (hBf.mono hBw.size)
      clear hvH hwH hBw hBf
      go_still_tail 2, (by kernel_rfl)
      change wpList _ _ _ _ _ wf.drew
      have hBs : w.heap.size ≤ w2.heap.size := by have := hB1.size; omega
      refine wpList_copy_splice rfl (.tmp 69) (.tmp 70) 150 150 rfl 137 Tryd.underlying150 hu94 _ _ 7 7 7 8 rfl rfl w2.heap.size 1 [.int .u32 (V 0), .int .u32 (V 1), .int .u32 (V 2), .int .u32 (V 3), .int .u32 (V 4), .int .u32 (V 5), .int .u32 (V 6), .int .u32 (V 7)] 139 hv
        [.int .u32 (V 0), .int .u32 (V 1), .int .u32 (V 2), .int .u32 (V 3), .int .u32 (V 4), .int .u32 (V 5), .int .u32 (V 6)] rfl (fun _ => ⟨rfl, _, rfl, ?hcs⟩) (by simp) ?hone w2.heap.size wf (Below.refl _ wf).drew (Nat.le_refl _) ?_
      case hcs =>
        intro j v hj
        have hj7 : j < 7 := (List.getElem?_eq_some_iff.1 hj).1
        have hcj := cell_of_row wf w2.heap.size j _ _ _ hv
        have : (⟨w2.heap.size, 0, none⟩ : Addr).add j = ⟨w2.heap.size, j, none⟩ := by unfold Addr.add; split <;> simp_all
        rw [this]
        refine hcj.trans ?_
        rw [← hj]
        match j, hj7 with
        | 0, _ => rfl
        | 1, _ => rfl
        | 2, _ => rfl
        | 3, _ => rfl
        | 4, _ => rfl
        | 5, _ => rfl
        | 6, _ => rfl
      case hone => intro v hv; simp at hv; rcases hv with h | h | h | h | h | h | h <;> (subst h; rfl)
      intro w4 h4 hB4
      have h5 : w4.heap[w2.heap.size]? = some (.cells #[.int .u32 (V 0), .int .u32 (V 0), .int .u32 (V 1), .int .u32 (V 2), .int .u32 (V 3), .int .u32 (V 4), .int .u32 (V 5), .int .u32 (V 6)] 139 (0, 0)) := h4.out
      clear h4
      have hw4 := (hB4.block w1.heap.size hs2).trans hw
      have hB4w := hB.trans (hB4.mono hBs)
      have c4 : w4.cell? ⟨w2.heap.size, 4, none⟩ = some (.int .u32 (V 3)) := cell_of_row w4 w2.heap.size 4 _ _ _ h5
      have f4 := frozen_of_row w4 w2.heap.size 4 _ _ h5
      have f0 := frozen_of_row w4 w2.heap.size 0 _ _ h5
      have c0 : w4.cell? ⟨w2.heap.size, 0, none⟩ = some (.int .u32 (V 0)) := cell_of_row w4 w2.heap.size 0 _ _ _ h5
      have h5H := hide h5
      clear h5
      go_wp2
      go_roundw
      case rel =>
        refine ⟨k + 1, by omega, by go_num, ?_, ?_, ?_⟩
        · rw [hVsH.out]
          refine (RW.two_sets w4 w2.heap.size _ _ _ _ h5H.out _ _).trans ?_
          rfl
        · exact (Below.heap_setCell _ _ _ _ (by simp; omega)).trans ((Below.heap_setCell _ _ _ _ (by simp; omega)).trans hw4)
        · exact (hB4w.setCell hBs _).setCell hBs _
      case measure => simp [intOf]; omega
    · obtain ⟨k', hk'⟩ : ∃ k' : Nat, k' = k := ⟨_, rfl⟩
      have hv64 : wr.heap[w2.heap.size]? = some (.cells (RW.vrow (RW.comp H K (RW.wf b) 64)) 139 (0, 0)) := by rw [show 64 = k by omega]; exact hv
      clear hv hw hk'
      have hg0 : w.grownBy wr (some g) := ⟨hB.os, hB.tape, hB.output, hB.size, fun i hi _ => hB.block i hi⟩
      have hHr := (hB.block g hgl).trans hH
      clear hB
      go_wp2
      obtain ⟨w5, rfl⟩ : ∃ w5 : World, w5 = wr := ⟨_, rfl⟩
      go_loopw [82] (fun i wr => ∃ j : Nat, j ≤ 8 ∧ i = .int .i64 j ∧ wr.heap[g]? = some (.cells (RW.vrow (RW.hrow H K (RW.wf b) j)) 139 (0, 0)) ∧ wr.heap[w2.heap.size]? = some (.cells (RW.vrow (RW.comp H K (RW.wf b) 64)) 139 (0, 0)) ∧ w.grownBy wr (some g))
        (fun i _ => 8 - (intOf i).toNat)
      case atStart => exact ⟨0, Nat.zero_le _, rfl, hHr, hv64, hg0⟩
      case round =>
        clear hHr hv64 hg0
        obtain ⟨j, hj, rfl, hh, hv, hg⟩ := hrel
        by_cases hjl : j < 8
        · have q8 : (j : Int) < 8 := by omega
          have ch : wr.cell? ⟨g, j, none⟩ = some (.int .u32 (RW.hrow H K (RW.wf b) j j)) := (cell_of_row wr g j _ _ _ hh).trans (RW.vrow_get _ j hjl)
          have cv : wr.cell? ⟨w2.heap.size, j, none⟩ = some (.int .u32 (RW.comp H K (RW.wf b) 64 j)) := (cell_of_row wr w2.heap.size j _ _ _ hv).trans (RW.vrow_get _ j hjl)
          have hhH := hide hh
          have hvH := hide hv
          clear hh hv
          go_wp2
          go_still_tail 11, (by kernel_rfl)
          change wpList _ _ _ _ _ wr.drew
          generalize hd : wr.drew = wd
          have hh : wd.heap[g]? = some (.cells (RW.vrow (RW.hrow H K (RW.wf b) j)) 139 (0, 0)) := by rw [← hd]; exact hhH.out
          have hv : wd.heap[w2.heap.size]? = some (.cells (RW.vrow (RW.comp H K (RW.wf b) 64)) 139 (0, 0)) := by rw [← hd]; exact hvH.out
          have hgd : w.grownBy wd (some g) := by rw [← hd]; exact ⟨hg.os, hg.tape, hg.output, hg.size, hg.block⟩
          clear hd hhH hvH hg ch cv
          have ch : wd.cell? ⟨g, j, none⟩ = some (.int .u32 (RW.hrow H K (RW.wf b) j j)) := (cell_of_row wd g j _ _ _ hh).trans (RW.vrow_get _ j hjl)
          have fh := frozen_of_row wd g j _ _ hh
          have hhH := hide hh
          have hvH := hide hv
          clear hh hv
          go_wp2
          go_roundw
          case rel =>
            refine ⟨j + 1, by omega, by go_num, ?_, ?_, ?_⟩
            · refine (heap_setCell_same wd g j _ _ _ hhH.out).trans ?_
              rw [RW.vrow_set _ (RW.hrow H K (RW.wf b) (j + 1)) j _ hjl]
              · unfold RW.hrow; rw [if_pos (by omega), if_neg (by omega)]; rfl
              · intro i _ hne; unfold RW.hrow
                by_cases h1 : i < j
                · rw [if_pos h1, if_pos (by omega)]
                · rw [if_neg h1, if_neg (by omega)]
            · exact (Below.heap_setCell _ _ _ _ (by have := hB1.size; simp; omega)).trans hvH.out
            · exact ⟨hgd.os, hgd.tape, hgd.output, by simpa [World.setCell] using hgd.size, fun i hi hne => (Below.heap_setCell _ _ _ _ (by intro e; exact hne (by rw [e]))).trans (hgd.block i hi hne)⟩
          case measure => simp [intOf]; omega
        · go_wp2
          go_end0
          refine ⟨rfl, ?_, hg⟩
          rw [hh, show j = 8 by omega]
          rfl
end Go.Proofs.YtllbphanfahkkaaDoor

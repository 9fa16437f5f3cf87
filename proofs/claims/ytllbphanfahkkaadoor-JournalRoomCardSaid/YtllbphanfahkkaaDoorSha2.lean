/-
  digest.schedule: the 64 words of a block; only new memory is written.
-/
import Derived.Deep.OwnRows
import Derived.Deep.RegionHeld3
import Derived.StillTailTactics
import Derived.Maps.AppendAt
import Derived.Test.YtllbphanfahkkaaDoorSha1
namespace Go.Proofs.YtllbphanfahkkaaDoor
open Go.RowKit
namespace RW
theorem block_of_add (a : Addr) (n : Nat) : (a.add n).block = a.block := by unfold Addr.add; split <;> rfl
theorem below_setRow {B : Nat} {a w : World} (h : Below B a w) {g : Nat} (hg : B ≤ g) (cs : Array Value) : Below B a (w.setRow g cs) :=
  h.trans ⟨rfl, rfl, rfl, by simp [World.setRow], fun k hk => by simp only [World.setRow, Array.getElem?_modify]; rw [if_neg (by omega)]⟩
/-- the first sixteen words -/
def w16 (b : Nat → Int) (i : Nat) : Int :=
  bits .or .u32 (bits .or .u32 (bits .or .u32 (b (4 * i) * 16777216) (b (4 * i + 1) * 65536)) (b (4 * i + 2) * 256)) (b (4 * i + 3))
def wst (W : Nat → Int) (i : Nat) : Int := 
  (((W (i - 16) + bits .xor .u32 (mixF (W (i - 15)) [7, 18]) (W (i - 15) / 8)) % 4294967296 + W (i - 7)) % 4294967296 + bits .xor .u32 (mixF (W (i - 2)) [17, 19]) (W (i - 2) / 1024)) % 4294967296
def wl (b : Nat → Int) : Nat → List Int
  | 0 => []
  | i + 1 => wl b i ++ [if i < 16 then w16 b i else wst (fun j => (wl b i).getD j 0) i]
def wf (b : Nat → Int) (j : Nat) : Int := (wl b (j + 1)).getD j 0
theorem wl_length (b : Nat → Int) (i : Nat) : (wl b i).length = i := by induction i with | zero => rfl | succ i ih => simp [wl, ih]
theorem wl_get (b : Nat → Int) (i j : Nat) (h : j < i) : (wl b i).getD j 0 = wf b j := by
  induction i with
  | zero => omega
  | succ i ih =>
    by_cases hj : j = i
    · subst hj; rfl
    · rw [wl, List.getD_eq_getElem?_getD, List.getElem?_append_left (by rw [wl_length]; omega), ← List.getD_eq_getElem?_getD]
      exact ih (by omega)
theorem wst_congr (V W : Nat → Int) (i : Nat) (h : ∀ j, j < i → V j = W j) (hi : 16 ≤ i) : wst V i = wst W i := by
  unfold wst; rw [h (i - 16) (by omega), h (i - 15) (by omega), h (i - 7) (by omega), h (i - 2) (by omega)]
theorem wf_eq (b : Nat → Int) (i : Nat) : wf b i = if i < 16 then w16 b i else wst (wf b) i := by
  unfold wf
  rw [wl, List.getD_eq_getElem?_getD, List.getElem?_append_right (by rw [wl_length]; omega), wl_length]
  simp only [Nat.sub_self, List.getElem?_cons_zero, Option.getD_some]
  by_cases h : i < 16
  · rw [if_pos h, if_pos h]
  · rw [if_neg h, if_neg h]
    exact wst_congr _ _ i (fun j hj => wl_get b i j hj) (by omega)
def wrow (b : Nat → Int) (k j : Nat) : Value := .int .u32 (if j < k then wf b j else 0)
theorem wrow_step16 (b : Nat → Int) (k : Nat) (hk : k < 16) : ∀ j, j < 64 → (if j = k then Value.int .u32 (w16 b k) else wrow b k j) = wrow b (k + 1) j := by
  intro j _
  unfold wrow
  by_cases h : j = k
  · subst h; rw [if_pos rfl, if_pos (by omega), wf_eq, if_pos hk]
  · rw [if_neg h]
    by_cases h2 : j < k
    · rw [if_pos h2, if_pos (by omega)]
    · rw [if_neg h2, if_neg (by omega)]
theorem wrow_step (b : Nat → Int) (k : Nat) (hk : 16 ≤ k) : ∀ j, j < 64 → (if j = k then Value.int .u32 (wst (wf b) k) else wrow b k j) = wrow b (k + 1) j := by
  intro j _
  unfold wrow
  by_cases h : j = k
  · subst h; rw [if_pos rfl, if_pos (by omega), wf_eq, if_neg (by omega)]
  · rw [if_neg h]
    by_cases h2 : j < k
    · rw [if_pos h2, if_pos (by omega)]
    · rw [if_neg h2, if_neg (by omega)]
end RW
set_option maxRecDepth 10000 in
set_option maxHeartbeats 1000000 in
theorem schedule_any (b : Nat → Int) (ab ao : Nat) (cap : Nat) (hb : ∀ i, i < 64 → 0 ≤ b i ∧ b i ≤ 255) (w : World) (hab : ab < w.heap.size)
    (hc : ∀ i, i < 64 → w.cell? ⟨ab, ao + i, none⟩ = some (.int .u8 (b i))) :
    Calls Tryd.prog 85 #[.slice (some ⟨ab, ao, none⟩) 64 cap] w fun e w' => e = .returned (.agg (((List.range 64).map fun j => Value.int .u32 (RW.wf b j)).toArray)) ∧ Below w.heap.size w w' := by
  go_enter Tryd.func85, Tryd.ntmps85
  go_wp2
  have hr0 : (w.alloc (.cells (Array.replicate 64 (.int .u32 0)) 147)).rowIs w.heap.size 147 64 (RW.wrow b 0) := by
    refine World.rowIs_alloc w (Array.replicate 64 (.int .u32 0)) _ _ ?_
    intro i hi
    have hi' : i < 64 := by simpa using hi
    simp [RW.wrow, hi']
  have hB0 : Below w.heap.size w (w.alloc (.cells (Array.replicate 64 (.int .u32 0)) 147)) := (Below.refl _ _).alloc (Nat.le_refl _) _
  obtain ⟨w0, hw0⟩ : ∃ w0, w0 = w.alloc (.cells (Array.replicate 64 (.int .u32 0)) 147) := ⟨_, rfl⟩
  rw [← hw0] at hr0 hB0
  have hw0' := hw0
  simp only [Array.replicate_succ, Array.replicate_zero, List.push_toArray, List.nil_append, List.cons_append] at hw0'
  rw [← hw0']
  clear hw0 hw0'
  go_loopw [7] (fun i wr => ∃ k : Nat, k ≤ 16 ∧ i = .int .i64 k ∧ wr.rowIs w.heap.size 147 64 (RW.wrow b k) ∧ Below w.heap.size w wr) (fun i _ => 16 - (intOf i).toNat)
  case atStart => exact ⟨0, Nat.zero_le _, rfl, hr0, hB0⟩
  case round =>
    obtain ⟨k, hk, rfl, hr, hB⟩ := hrel
    by_cases hlt : k < 16
    · have hcell : ∀ i, i < 64 → wr.cell? ⟨ab, ao + i, none⟩ = some (.int .u8 (b i)) := fun i hi => (hB.cell hab).trans (hc i hi)
      have c0 := hcell (4 * k) (by omega)
      have c1 := hcell (4 * k + 1) (by omega)
      have c2 : wr.cell? ⟨ab, ao + (4 * k + 1 + 1), none⟩ = _ := hcell (4 * k + 2) (by omega)
      have c3 : wr.cell? ⟨ab, ao + (4 * k + 1 + 1 + 1), none⟩ = _ := hcell (4 * k + 3) (by omega)
      have b0 := hb (4 * k) (by omega)
      have b1 := hb (4 * k + 1) (by omega)
      have b2 := hb (4 * k + 2) (by omega)
      have b3 := hb (4 * k + 3) (by omega)
      have cA := hr.cell (i := k) (by omega)
      have fA := hr.frozen k
      clear hcell hc
      have hne : ¬ ab = w.heap.size := by omega
      have p0 : (0 : Int) ≤ 4 * (k : Int) := by omega
      have p1 : (0 : Int) ≤ 4 * (k : Int) + 1 := by omega
      have p2 : (0 : Int) ≤ 4 * (k : Int) + 2 := by omega
      have p3 : (0 : Int) ≤ 4 * (k : Int) + 3 := by omega
      have q0 : 4 * (k : Int) < 64 := by omega
      have q1 : 4 * (k : Int) + 1 < 64 := by omega
      have q2 : 4 * (k : Int) + 2 < 64 := by omega
      have q3 : 4 * (k : Int) + 3 < 64 := by omega
      have qk : (k : Int) < 64 := by omega
      have e0 : IntKind.i64.wrap (4 * (k : Int)) = 4 * (k : Int) := IntWalk.i64_in _ (by omega)
      have e1 : IntKind.i64.wrap (4 * (k : Int) + 1) = 4 * (k : Int) + 1 := IntWalk.i64_in _ (by omega)
      have e2 : IntKind.i64.wrap (4 * (k : Int) + 2) = 4 * (k : Int) + 2 := IntWalk.i64_in _ (by omega)
      have e3 : IntKind.i64.wrap (4 * (k : Int) + 3) = 4 * (k : Int) + 3 := IntWalk.i64_in _ (by omega)
      have n0 : (4 * (k : Int)).toNat = 4 * k := by omega
      have n1 : (4 * (k : Int) + 1).toNat = 4 * k + 1 := by omega
      have n2 : (4 * (k : Int) + 2).toNat = 4 * k + 2 := by omega
      have n3 : (4 * (k : Int) + 3).toNat = 4 * k + 3 := by omega
      go_wp2
      go_still_tail 34, (by kernel_rfl)
      change wpList _ _ _ _ _ wr.drew
      generalize hv : wr.drew = wd
      have hrd : wd.rowIs w.heap.size 147 64 (RW.wrow b k) := by rw [← hv]; exact hr.drew
      have hBd : Below w.heap.size w wd := by rw [← hv]; exact hB.drew
      have cAd := hrd.cell (i := k) (by omega)
      have fAd := hrd.frozen k
      clear hv cA fA
      go_wp2
      go_roundw
      case rel =>
        exact ⟨k + 1, by omega, by go_num, (hrd.set k _).congr (RW.wrow_step16 b k hlt), hBd.setCell (by simp) _⟩
      case measure => simp [intOf]; omega
    · have hr16 : wr.rowIs w.heap.size 147 64 (RW.wrow b 16) := by rw [show 16 = k by omega]; exact hr
      clear hr
      go_wp2
      clear hr0 hB0
      obtain ⟨w1, rfl⟩ : ∃ w1 : World, w1 = wr := ⟨_, rfl⟩
      go_loopw [4] (fun i wr => ∃ k : Nat, 16 ≤ k ∧ k ≤ 64 ∧ i = .int .i64 k ∧ wr.rowIs w.heap.size 147 64 (RW.wrow b k) ∧ Below w.heap.size w wr) (fun i _ => 64 - (intOf i).toNat)
      case atStart => exact ⟨16, by omega, by omega, rfl, hr16, hB⟩
      case round =>
        clear hr16 hB hc
        obtain ⟨k, hk16, hk, rfl, hr, hB⟩ := hrel
        by_cases hlt : k < 64
        · have p1 : (0 : Int) ≤ (k : Int) - 15 := by omega
          have p2 : (0 : Int) ≤ (k : Int) - 2 := by omega
          have p3 : (0 : Int) ≤ (k : Int) - 16 := by omega
          have p4 : (0 : Int) ≤ (k : Int) - 7 := by omega
          have q1 : (k : Int) - 15 < 64 := by omega
          have q2 : (k : Int) - 2 < 64 := by omega
          have q3 : (k : Int) - 16 < 64 := by omega
          have q4 : (k : Int) - 7 < 64 := by omega
          have qk : (k : Int) < 64 := by omega
          have e1 : IntKind.i64.wrap ((k : Int) - 15) = (k : Int) - 15 := IntWalk.i64_in _ (by omega)
          have e2 : IntKind.i64.wrap ((k : Int) - 2) = (k : Int) - 2 := IntWalk.i64_in _ (by omega)
          have e3 : IntKind.i64.wrap ((k : Int) - 16) = (k : Int) - 16 := IntWalk.i64_in _ (by omega)
          have e4 : IntKind.i64.wrap ((k : Int) - 7) = (k : Int) - 7 := IntWalk.i64_in _ (by omega)
          have n1 : ((k : Int) - 15).toNat = k - 15 := by omega
          have n2 : ((k : Int) - 2).toNat = k - 2 := by omega
          have n3 : ((k : Int) - 16).toNat = k - 16 := by omega
          have n4 : ((k : Int) - 7).toNat = k - 7 := by omega
          have hw : ∀ j, j < k → RW.wrow b k j = .int .u32 (RW.wf b j) := fun j hj => by unfold RW.wrow; rw [if_pos hj]
          have c1 := hr.cell (i := k - 15) (by omega)
          have c2 := hr.cell (i := k - 2) (by omega)
          have c3 := hr.cell (i := k - 16) (by omega)
          have c4 := hr.cell (i := k - 7) (by omega)
          rw [hw _ (by omega)] at c1 c2 c3 c4
          have ck := hr.cell (i := k) hlt
          have fk := hr.frozen k
          clear hw
          have hlA := hr.lt
          go_wp2
          go_quiet (fail)
          go_wp2
          generalize hv : wr.drewN _ = wd
          have hrd : wd.rowIs w.heap.size 147 64 (RW.wrow b k) := by rw [← hv]; exact hr
          have hBd : Below w.heap.size w wd := by rw [← hv]; exact ⟨hB.os, hB.tape, hB.output, hB.size, hB.block⟩
          clear hv hr hB c1 c2 c3 c4 ck fk hlA
          have hw : ∀ j, j < k → RW.wrow b k j = .int .u32 (RW.wf b j) := fun j hj => by unfold RW.wrow; rw [if_pos hj]
          have c1 := hrd.cell (i := k - 15) (by omega)
          have c2 := hrd.cell (i := k - 2) (by omega)
          have c3 := hrd.cell (i := k - 16) (by omega)
          have c4 := hrd.cell (i := k - 7) (by omega)
          rw [hw _ (by omega)] at c1 c2 c3 c4
          have ck := hrd.cell (i := k) (by omega)
          have fk := hrd.frozen k
          clear hw
          have hlA := hrd.lt
          have p3 : (0 : Int) ≤ (k : Int) - 16 := by omega
          have p4 : (0 : Int) ≤ (k : Int) - 7 := by omega
          have q3 : (k : Int) - 16 < 64 := by omega
          have q4 : (k : Int) - 7 < 64 := by omega
          have qk : (k : Int) < 64 := by omega
          have e3 : IntKind.i64.wrap ((k : Int) - 16) = (k : Int) - 16 := IntWalk.i64_in _ (by omega)
          have e4 : IntKind.i64.wrap ((k : Int) - 7) = (k : Int) - 7 := IntWalk.i64_in _ (by omega)
          have n3 : ((k : Int) - 16).toNat = k - 16 := by omega
          have n4 : ((k : Int) - 7).toNat = k - 7 := by omega
          have r3 : (16 : Int) ≤ (k : Int) := by omega
          have r4 : (7 : Int) ≤ (k : Int) := by omega
          have hs3 : ∀ v, (wd.setCell ⟨w.heap.size, k, none⟩ v).cell? ⟨w.heap.size, k - 16, none⟩ = some (.int .u32 (RW.wf b (k - 16))) := fun v => (World.cell?_setCell_other _ _ _ _ (by intro e; injection e with _ e; omega)).trans c3
          have hs4 : ∀ v, (wd.setCell ⟨w.heap.size, k, none⟩ v).cell? ⟨w.heap.size, k - 7, none⟩ = some (.int .u32 (RW.wf b (k - 7))) := fun v => (World.cell?_setCell_other _ _ _ _ (by intro e; injection e with _ e; omega)).trans c4
          go_region_held3 (fun w' => w'.cell? ⟨w.heap.size, k - 16, none⟩ = some (.int .u32 (RW.wf b (k - 16))) ∧ w'.cell? ⟨w.heap.size, k - 7, none⟩ = some (.int .u32 (RW.wf b (k - 7))))
            (go_keep)
            (first | ((with_reducible refine (mixed2 (RW.wf b (k - 15)) 7 18 _ 2 (by decide) _ ?_ ?_).mono ?_); (simp); (simp); rintro e w' ⟨rfl, rfl⟩) | ((with_reducible refine (mixed2 (RW.wf b (k - 2)) 17 19 _ 2 (by decide) _ ?_ ?_).mono ?_); (simp); (simp); rintro e w' ⟨rfl, rfl⟩))
          all_goals
            go_wp2
            go_roundw
            case rel =>
              refine ⟨k + 1, by omega, by omega, by go_num, ?_, ?_⟩
              · first
                | exact ((((hrd.set k _).congr (RW.wrow_step b k hk16)).alloc _).alloc _).drew
              · exact (((hBd.setCell (by simp) _).alloc (by simp; omega) _).alloc (by simp; omega) _).drew
            case measure => simp [intOf]; omega
        · obtain rfl : k = 64 := by omega
          obtain ⟨cs, hcs, hsz, hf⟩ := hr
          have he : cs = ((List.range 64).map fun j => Value.int .u32 (RW.wf b j)).toArray := by
            apply Array.ext
            · rw [hsz]; simp
            · intro i h1 h2
              have := hf i (by omega)
              rw [Array.getElem?_eq_getElem h1] at this
              simp at this ⊢
              rw [this]; unfold RW.wrow; rw [if_pos (by omega)]
          have hone : cs.all (·.oneCell') = true := by
            rw [Array.all_eq_true]; intro i hi
            have := hf i (by omega)
            rw [Array.getElem?_eq_getElem hi] at this
            simp at this; rw [this]; rfl
          have hi1 : (Tryd.prog.info? 147).map (·.size) = some cs.size := by rw [hsz]; kernel_rfl
          have heH := hide he
          have hszH := hide hsz
          have hcsH := hide hcs
          clear he hsz hcs hf
          go_wp2_with (first | (refine wpList_load_row rfl 147 (.tmp 2) rfl w.heap.size rfl 147 cs (0, 0) _ hcsH.out Tryd.underlying147 rfl hi1 ?_) | (refine wpList_store_row rfl 147 (.tmp 2) (.tmp 83) rfl w.heap.size cs rfl rfl 147 cs hcsH.out hi1 rfl hone ?_))
          refine bodyPost_ret (results_cell_row rfl _ _ w.heap.size 147 cs (0, 0) _ rfl (setRow_heap _ _ _ _ _ _ hcsH.out) Tryd.underlying147 rfl hi1) rfl ⟨by rw [heH.out], RW.below_setRow hB (Nat.le_refl _) _⟩
end Go.Proofs.YtllbphanfahkkaaDoor

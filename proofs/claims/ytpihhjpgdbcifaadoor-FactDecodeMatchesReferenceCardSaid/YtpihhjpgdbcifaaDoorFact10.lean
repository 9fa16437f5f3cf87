/-
  Package fact: Decode: what it returns; only new memory is written.
-/
import Derived.Test.YtpihhjpgdbcifaaDoorFact9
namespace Go.Proofs.YtpihhjpgdbcifaaDoor
open Go.RowKit Go.Stop
namespace RW
def upd (f : Nat → Int) (j : Nat) (n : Int) (i : Nat) : Int := if i = j then n else f i
def decFrom : Nat → Nat → (Nat → Int) → List UInt8 → Option ((Nat → Int) × List UInt8)
  | 0, _, f, l => some (f, l)
  | k + 1, j, f, l => match decI l with
    | none => none
    | some (n, c) => decFrom k (j + 1) (upd f j n) (l.drop c)
theorem decFrom_none (k j : Nat) (f : Nat → Int) (l : List UInt8) (h : decI l = none) : decFrom (k + 1) j f l = none := by rw [decFrom, h]
theorem decFrom_some (k j : Nat) (f : Nat → Int) (l : List UInt8) (n : Int) (c : Nat) (h : decI l = some (n, c)) : decFrom (k + 1) j f l = decFrom k (j + 1) (upd f j n) (l.drop c) := by rw [decFrom, h]
/-- the numbers and the text of an encoding -/
def decF (l : List UInt8) : Option ((Nat → Int) × List UInt8) := match decFrom 17 0 zeroF l with
  | none => none
  | some (f, r) => match decS r with
    | none => none
    | some (t, c) => if c < r.length then none else some (f, t)
noncomputable def decV : Option ((Nat → Int) × List UInt8) → Value
  | none => .tuple #[.agg (fcells zeroF ⟨#[]⟩), .int .i64 10]
  | some (f, t) => match validB f t.length with
    | true => .tuple #[.agg (fcells f ⟨t.toArray⟩), .int .i64 0]
    | false => .tuple #[.agg (fcells zeroF ⟨#[]⟩), .int .i64 50]
theorem decS_le (l : List UInt8) (t : List UInt8) (c : Nat) (h : decS l = some (t, c)) : c ≤ l.length ∧ t.length ≤ l.length ∧ t.length ≤ 65536 := by
  rcases hI : decI l with _ | ⟨n, k⟩
  · rw [decS_none _ hI] at h; cases h
  · rw [decS_some _ _ _ hI] at h
    have hk := decI_le _ _ _ hI
    split at h
    · cases h
    · simp at h
      obtain ⟨h1, h2⟩ := h
      subst h1
      simp
      omega
theorem decF_none (l : List UInt8) (h : decFrom 17 0 zeroF l = none) : decF l = none := by unfold decF; rw [h]
theorem decF_bad (l : List UInt8) (f : Nat → Int) (r : List UInt8) (h : decFrom 17 0 zeroF l = some (f, r)) (hs : decS r = none) : decF l = none := by unfold decF; rw [h]; simp only [hs]
theorem decF_more (l : List UInt8) (f : Nat → Int) (r t : List UInt8) (c : Nat) (h : decFrom 17 0 zeroF l = some (f, r)) (hs : decS r = some (t, c)) (hc : c < r.length) : decF l = none := by unfold decF; rw [h]; simp only [hs, if_pos hc]
theorem decF_some (l : List UInt8) (f : Nat → Int) (r t : List UInt8) (c : Nat) (h : decFrom 17 0 zeroF l = some (f, r)) (hs : decS r = some (t, c)) (hc : ¬ c < r.length) : decF l = some (f, t) := by unfold decF; rw [h]; simp only [hs, if_neg hc]
theorem decV_yes (f : Nat → Int) (t : List UInt8) (h : validB f t.length = true) : decV (some (f, t)) = .tuple #[.agg (fcells f ⟨t.toArray⟩), .int .i64 0] := by unfold decV; simp only [h]
theorem decV_no (f : Nat → Int) (t : List UInt8) (h : validB f t.length = false) : decV (some (f, t)) = .tuple #[.agg (fcells zeroF ⟨#[]⟩), .int .i64 50] := by unfold decV; simp only [h]
theorem fcells_upd (f : Nat → Int) (s : ByteArray) (j : Nat) (n : Int) (h : j < 17) : (fcells f s).setIfInBounds j (.int .i64 n) = fcells (upd f j n) s := by
  apply fcells_ext
  · simp [fcells_size]
  · intro i hi
    rw [Array.getElem?_setIfInBounds]
    unfold upd
    by_cases e : j = i
    · subst e; rw [if_pos rfl, if_pos rfl, if_pos (by rw [fcells_size]; omega)]
    · rw [if_neg e, if_neg (Ne.symm e), fcells_get _ _ _ hi]
  · rw [Array.getElem?_setIfInBounds, if_neg (by omega), fcells_text]
theorem fcells_settext (f : Nat → Int) (s u : ByteArray) : (fcells f s).setIfInBounds 17 (.string u) = fcells f u := by
  apply fcells_ext
  · simp [fcells_size]
  · intro i hi; rw [Array.getElem?_setIfInBounds, if_neg (by omega), fcells_get _ _ _ hi]
  · rw [Array.getElem?_setIfInBounds, if_pos rfl, if_pos (by rw [fcells_size]; decide)]
end RW
theorem dec_results (tmps : Array Value) (w : World) (B : Nat) (cs : Array Value) (v : Int) (hn : cs.size = 18) (h2 : tmps[2]? = some (.pointer (some ⟨B, 0, none⟩))) (h3 : tmps[3]? = some (.pointer (some ⟨B + 1, 0, none⟩)))
    (hx : w.heap[B]? = some (.cells cs 23 (0, 0))) (hy : w.heap[B + 1]? = some (.cells #[.int .i64 v] 30 (0, 0))) :
    (results Tryd.f25 tmps).run Tryd.prog w = .ok (.tuple #[.agg cs, .int .i64 v]) w := by
  have hi1 : (Tryd.prog.info? 23).map (·.size) = some cs.size := by rw [hn]; kernel_rfl
  have e1 := run_loadVar_row (P := Tryd.prog) w B 23 23 cs (0, 0) _ hx Tryd.underlying23 rfl hi1
  have e2 : w.cell? ⟨B + 1, 0, none⟩ = some (.int .i64 v) := by rw [cell_of_heap hy]; rfl
  have e3 : (loadVar 30 ⟨B + 1, 0, none⟩).run Tryd.prog w = .ok (.int .i64 v) w := by simp [go_sem, e2]
  simp [results, Tryd.results25, h2, h3, asAddr, e1, e3]
attribute [local go_sem ↓] ldRow_fact
set_option maxRecDepth 100000 in
set_option maxHeartbeats 8000000 in
theorem decode_any (s : ByteArray) (hs : s.size ≤ 1099511627776) (a : Addr) (w : World) (hg : w.cell? ⟨0, 0, none⟩ = some (RW.eW a)) :
    Calls Tryd.prog 25 #[.string s] w fun e w' => e = .returned (RW.decV (RW.decF s.data.toList)) ∧ Below w.heap.size w w' := by
  have hmf : ∀ (fn : Fn) (first cap : Array Value) (w : World), (Instr.makeFunc fn first cap).run Tryd.prog w = .ok (.func fn first cap) w := fun _ _ _ _ => rfl
  have hgl : 0 < w.heap.size := by
    cases h : w.heap[0]? with
    | none => simp [World.cell?, h] at hg
    | some o => exact (Array.getElem?_eq_some_iff.1 h).1
  go_enter_defers Tryd.func25, Tryd.ntmps25
  go_wp2_with fail
  refine (numbers_any _ _).mono ?_
  rintro e w4 ⟨rfl, hB4⟩
  simp only [World.size_alloc] at hB4
  obtain ⟨B, hB⟩ : ∃ B, B = w.heap.size := ⟨_, rfl⟩
  rw [← hB] at hgl hB4 ⊢
  have hx4 : w4.heap[B]? = some (.cells (RW.fcells RW.zeroF ⟨#[]⟩) 23 (0, 0)) := by
    rw [fzero]
    exact (hB4.block _ (by omega)).trans ((Below.heap_alloc _ _ _ (by simp; omega)).trans ((Below.heap_alloc _ _ _ (by simp; omega)).trans (heap_new_at hB)))
  have hy4 : w4.heap[B + 1]? = some (.cells #[.int .i64 0] 30 (0, 0)) :=
    (hB4.block _ (by omega)).trans ((Below.heap_alloc _ _ _ (by simp; omega)).trans (heap_new_at (by simp; omega)))
  have hr4 : w4.heap[B + 2]? = some (.cells (RW.fcells RW.zeroF ⟨#[]⟩) 50 (0, 0)) := by
    rw [fzero]
    exact (hB4.block _ (by omega)).trans (heap_new_at (by simp; omega))
  have hBB4 : Below B w w4 := (((((Below.refl B w).alloc (by omega) _).alloc (by simp; omega) _).alloc (by simp; omega) _).trans (hB4.mono (by omega)))
  have hs4 : B + 3 ≤ w4.heap.size := by have := hB4.size; simp at this; omega
  have hr5 : (Tryd.prog.info? 52).map (·.size) = some 1 := by kernel_rfl
  have hix : ∀ j : Nat, j < 17 → ∀ W', (Instr.index 64 (.agg (RW.ptrs (B + 1 + 1))) (.int .i64 (j : Int))).run Tryd.prog W' = .ok (.pointer (some ⟨B + 1 + 1, j, none⟩)) W' := fun j hj W' => by
    have h1 := RW.ptrs_get (B + 1 + 1) j hj
    cases hq : Tryd.prog.info? 52 with
    | none => simp [hq] at hr5
    | some inf =>
      have h2 : inf.size = 1 := by simpa [hq] using hr5
      simp [Instr.index, asIntOf, run_underlying Tryd.underlying64, hj, part, isAgg, run_underlying Tryd.underlying52, sizeOf, typeInfo, hq, h2, h1]
  have hixH := hide hix
  have hgH := hide hg
  have hBH := hide hB
  clear hix hB4 hr5 hg hB
  go_wp2_with fail
  go_loopw [5, 18] (fun p i wr => ∃ (j at_ : Nat) (f : Nat → Int), j ≤ 17 ∧ at_ ≤ s.size ∧ i = .int .i64 j ∧ p = .int .i64 at_ ∧ Hid (RW.decFrom (17 - j) j f (s.data.toList.drop at_) = RW.decFrom 17 0 RW.zeroF s.data.toList) ∧
      wr.heap[B + 2]? = some (.cells (RW.fcells f ⟨#[]⟩) 50 (0, 0)) ∧ wr.heap[B]? = some (.cells (RW.fcells RW.zeroF ⟨#[]⟩) 23 (0, 0)) ∧ wr.heap[B + 1]? = some (.cells #[.int .i64 0] 30 (0, 0)) ∧ Below B w wr ∧ B + 3 ≤ wr.heap.size)
    (fun _ i _ => 17 - (intOf i).toNat)
  case atStart => exact ⟨0, 0, RW.zeroF, by omega, by omega, rfl, rfl, rfl, hr4, hx4, hy4, hBB4, hs4⟩
  case round =>
    clear hr4 hx4 hy4 hBB4 hs4
    obtain ⟨j, at_, f, hj, hat, rfl, rfl, hd, hrw, hxw, hyw, hBw, hsw⟩ := hrel
    have hgw : wr.cell? ⟨0, 0, none⟩ = some (RW.eW a) := (World.cell?_of_block (a := ⟨0, 0, none⟩) (hBw.block _ hgl)).trans hgH.out
    by_cases hlt : j < 17
    · have hix := hixH.out j hlt
      have hI := int_walk s at_ wr (by omega) hat
      rcases hD : RW.decI (s.data.toList.drop at_) with _ | ⟨n, c⟩
      · rw [hD] at hI
        have hIH := hide hI
        have hdn := hide (RW.decFrom_none (17 - j - 1) j f _ hD)
        clear hI hD
        go_wp2_with (first | (go_at_call 44; refine hIH.out.mono ?_; rintro e w' ⟨rfl, rfl⟩; unfold intRes) | (go_at_call 45; refine (check_bad 10 rfl a _ hgw).mono ?_; rintro e w' ⟨rfl, rfl⟩))
        refine leaves_cons (f := 42) (args := #[.pointer (some ⟨B, 0, none⟩), .pointer (some ⟨B + 1, 0, none⟩)]) (by simp) (by simp [go_sem]) ?_
        refine (catch_panicking B a _ 0 _ hgw hgl hxw rfl hyw).mono ?_
        rintro e u' w9 ⟨rfl, rfl, hx9, hy9, hB9⟩
        refine ⟨_, dec_results _ _ B _ _ rfl rfl rfl hx9 hy9, ?_, ?_⟩
        · rw [RW.decF_none _ (by rw [← hd.out, show 17 - j = 17 - j - 1 + 1 by omega]; exact hdn.out)]; rfl
        · rw [← hBH.out]; exact hBw.trans hB9
      · rw [hD] at hI
        have hkl := RW.decI_le _ _ _ hD
        have hnb := RW.decI_bd _ _ _ hD
        have hIH := hide hI
        have hdn := hide (RW.decFrom_some (17 - j - 1) j f _ n c hD)
        have hll : (s.data.toList.drop at_).length = s.size - at_ := by simp
        rw [hll] at hkl
        have cj : wr.cell? ⟨B + 1 + 1, j, none⟩ = some (.int .i64 (f j)) := by rw [show B + 1 + 1 = B + 2 from rfl, cell_of_heap hrw, fcells_get _ _ _ hlt]
        have fj : wr.frozen? ⟨B + 1 + 1, j, none⟩ = false := by rw [show B + 1 + 1 = B + 2 from rfl]; simp [World.frozen?, hrw]
        have hhd := hide hll
        clear hI hD hll
        go_wp2_with (first | (go_at_call 44; refine hIH.out.mono ?_; rintro e w' ⟨rfl, rfl⟩; unfold intRes) | (go_at_call 45; refine (check_ok _).mono ?_; rintro e w' ⟨rfl, rfl⟩))
        go_roundw
        case rel =>
          refine ⟨j + 1, at_ + c, RW.upd f j n, by omega, by omega, by go_num, by go_num, ?_, ?_, ?_, ?_, hBw.setCell (by show B ≤ B + 1 + 1; omega) _, by simpa using hsw⟩
          · show _ = _
            rw [← hd.out, show 17 - j = 17 - j - 1 + 1 by omega, hdn.out, List.drop_drop, show 17 - (j + 1) = 17 - j - 1 by omega]
          · rw [← RW.fcells_upd f _ j n hlt]; exact heap_setCell_same _ _ _ _ _ _ hrw
          · exact (Below.heap_setCell _ _ _ _ (show B ≠ B + 1 + 1 by omega)).trans hxw
          · exact (Below.heap_setCell _ _ _ _ (show B + 1 ≠ B + 1 + 1 by omega)).trans hyw
        case measure => simp [intOf]; omega
    · obtain rfl : j = 17 := by omega
      have hd17 : RW.decFrom 17 0 RW.zeroF s.data.toList = some (f, s.data.toList.drop at_) := hd.out.symm
      have hS := str_walk s at_ wr (by omega) hat
      have yc : wr.cell? ⟨B + 1, 0, none⟩ = some (.int .i64 0) := by rw [cell_of_heap hyw]; rfl
      have yf : wr.frozen? ⟨B + 1, 0, none⟩ = false := by simp [World.frozen?, hyw]
      have hgs : ∀ v, (wr.setCell ⟨B + 1, 0, none⟩ v).cell? ⟨0, 0, none⟩ = some (RW.eW a) := fun v => (World.cell?_of_block (a := ⟨0, 0, none⟩) (Below.heap_setCell _ _ _ _ (show 0 ≠ B + 1 by omega))).trans hgw
      have hxs : ∀ v, (wr.setCell ⟨B + 1, 0, none⟩ v).heap[B]? = some (.cells (RW.fcells RW.zeroF ⟨#[]⟩) 23 (0, 0)) := fun v => (Below.heap_setCell _ _ _ _ (show B ≠ B + 1 by omega)).trans hxw
      have hys : ∀ n, (wr.setCell ⟨B + 1, 0, none⟩ (.int .i64 n)).heap[B + 1]? = some (.cells #[.int .i64 n] 30 (0, 0)) := fun n => heap_setCell_same _ _ _ _ _ _ hyw
      have hrs : ∀ v, (wr.setCell ⟨B + 1, 0, none⟩ v).heap[B + 2]? = some (.cells (RW.fcells f ⟨#[]⟩) 50 (0, 0)) := fun v => (Below.heap_setCell _ _ _ _ (show B + 2 ≠ B + 1 by omega)).trans hrw
      have hBs : ∀ v, Below B w (wr.setCell ⟨B + 1, 0, none⟩ v) := fun v => hBw.setCell (by show B ≤ B + 1; omega) _
      have hxsH := hide hxs; have hysH := hide hys; have hrsH := hide hrs; have hd17H := hide hd17
      clear hxs hys hrs hyw hxw hrw hd17
      rcases hD : RW.decS (s.data.toList.drop at_) with _ | ⟨t, c⟩
      · rw [hD] at hS
        have hSH := hide hS
        have hDH := hide hD
        clear hS hD
        have hga := hgs (.int .i64 10)
        go_wp2_with (first | (go_at_call 46; refine hSH.out.mono ?_; rintro e w' ⟨rfl, rfl⟩; unfold strRes) | (go_at_call 45; refine (check_bad 10 rfl a _ hga).mono ?_; rintro e w' ⟨rfl, rfl⟩))
        refine leaves_cons (f := 42) (args := #[.pointer (some ⟨B, 0, none⟩), .pointer (some ⟨B + 1, 0, none⟩)]) (by simp) (by simp [go_sem]) ?_
        refine (catch_panicking B a _ 10 _ hga hgl (hxsH.out _) rfl (hysH.out 10)).mono ?_
        rintro e u' w9 ⟨rfl, rfl, hx9, hy9, hB9⟩
        refine ⟨_, dec_results _ _ B _ _ rfl rfl rfl hx9 hy9, ?_, ?_⟩
        · rw [RW.decF_bad _ _ _ hd17H.out hDH.out]; rfl
        · rw [← hBH.out]; exact (hBs _).trans hB9
      · rw [hD] at hS
        have hkl := RW.decS_le _ _ _ hD
        have hll : (s.data.toList.drop at_).length = s.size - at_ := by simp
        rw [hll] at hkl
        have hSH := hide hS
        have hDH := hide hD
        have hllH := hide hll
        clear hS hD hll
        have hgb := hgs (.int .i64 0)
        by_cases hm : at_ + c < s.size
        · go_wp2_with (first | (go_at_call 46; refine hSH.out.mono ?_; rintro e w' ⟨rfl, rfl⟩; unfold strRes) | (go_at_call 45; first | (refine (check_ok _).mono ?_; rintro e w' ⟨rfl, rfl⟩) | (refine (check_bad 10 rfl a _ hgb).mono ?_; rintro e w' ⟨rfl, rfl⟩)))
          refine leaves_cons (f := 42) (args := #[.pointer (some ⟨B, 0, none⟩), .pointer (some ⟨B + 1, 0, none⟩)]) (by simp) (by simp [go_sem]) ?_
          refine (catch_panicking B a _ 0 _ hgb hgl (hxsH.out _) rfl (hysH.out 0)).mono ?_
          rintro e u' w9 ⟨rfl, rfl, hx9, hy9, hB9⟩
          refine ⟨_, dec_results _ _ B _ _ rfl rfl rfl hx9 hy9, ?_, ?_⟩
          · rw [RW.decF_more _ _ _ _ _ hd17H.out hDH.out (by rw [hllH.out]; omega)]; rfl
          · rw [← hBH.out]; exact (hBs _).trans hB9
        · have hc17 : (wr.setCell ⟨B + 1, 0, none⟩ (.int .i64 0)).cell? ⟨B + 1 + 1, 17, none⟩ = some (.string ⟨#[]⟩) := by rw [show B + 1 + 1 = B + 2 from rfl, cell_of_heap (hrsH.out _), fcells_text]
          have hf17 : (wr.setCell ⟨B + 1, 0, none⟩ (.int .i64 0)).frozen? ⟨B + 1 + 1, 17, none⟩ = false := by rw [show B + 1 + 1 = B + 2 from rfl]; simp [World.frozen?, hrsH.out]
          obtain ⟨T, hT⟩ : ∃ T : ByteArray, T = ⟨t.toArray⟩ := ⟨_, rfl⟩
          have hTs : T.size = t.length := by rw [hT]; show t.toArray.size = _; simp
          obtain ⟨W5, hW5⟩ : ∃ W5, W5 = (wr.setCell ⟨B + 1, 0, none⟩ (.int .i64 0)).setCell ⟨B + 1 + 1, 17, none⟩ (.string T) := ⟨_, rfl⟩
          have hr5 : W5.heap[B + 1 + 1]? = some (.cells (RW.fcells f T) 50 (0, 0)) := by rw [hW5, ← RW.fcells_settext f ⟨#[]⟩ T]; exact heap_setCell_same _ _ _ _ _ _ (hrsH.out _)
          have hx5 : W5.heap[B]? = some (.cells (RW.fcells RW.zeroF ⟨#[]⟩) 23 (0, 0)) := by rw [hW5]; exact (Below.heap_setCell _ _ _ _ (show B ≠ B + 1 + 1 by omega)).trans (hxsH.out _)
          have hy5 : W5.heap[B + 1]? = some (.cells #[.int .i64 0] 30 (0, 0)) := by rw [hW5]; exact (Below.heap_setCell _ _ _ _ (show B + 1 ≠ B + 1 + 1 by omega)).trans (hysH.out 0)
          have hB5 : Below B w W5 := by rw [hW5]; exact (hBs _).setCell (by show B ≤ B + 1 + 1; omega) _
          have hs5 : B + 3 ≤ W5.heap.size := by rw [hW5]; simpa using hsw
          have hi2 : (Tryd.prog.info? 23).map (·.size) = some (18 : Nat) := by kernel_rfl
          have hL5 : (ldRow 23 (.pointer (some ⟨B + 1 + 1, 0, none⟩))).run Tryd.prog ((wr.setCell ⟨B + 1, 0, none⟩ (.int .i64 0)).setCell ⟨B + 1 + 1, 17, none⟩ (.string T)) = .ok (.agg (RW.fcells f T)) ((wr.setCell ⟨B + 1, 0, none⟩ (.int .i64 0)).setCell ⟨B + 1 + 1, 17, none⟩ (.string T)) := by
            rw [← hW5]; exact ldRow_eq _ _ _ _ _ _ _ hr5 Tryd.underlying23 rfl hi2
          have hW5H := hide hW5
          have hTH := hide hT
          have hTsH := hide hTs
          clear hW5 hTs
          have hSR : Hid (strRes at_ (some (t, c)) = .tuple #[.string T, .int .i64 ((at_ + c : Nat) : Int), .int .i64 0]) := by rw [hT]; rfl
          clear hT
          have hV := valid_any f T
          cases hv : RW.validB f T.size
          all_goals
            rw [hv] at hV
            have hvH := hide hv
            have hVH := hide hV
            clear hv hV
            go_wp2_with (first | (go_at_call 46; refine hSH.out.mono ?_; rintro e w' ⟨rfl, rfl⟩; rw [hSR.out]) | (go_at_call 45; refine (check_ok _).mono ?_; rintro e w' ⟨rfl, rfl⟩))
            refine (hVH.out _).mono ?_
            rw [← hW5H.out]
            rintro e w6 ⟨rfl, hB6⟩
            have hx6 := (hB6.block B (by omega)).trans hx5
            have hy6 := (hB6.block (B + 1) (by omega)).trans hy5
            have hr6 := (hB6.block (B + 1 + 1) (by omega)).trans hr5
            have hBB6 := hB5.trans (hB6.mono (by omega))
            have hyz : ∀ Z, (w6.setRow B Z).heap[B + 1]? = some (.cells #[.int .i64 0] 30 (0, 0)) := fun Z => by
              rw [← hy6]; simp only [World.setRow, Array.getElem?_modify]; rw [if_neg (by omega)]
            have hyc : ∀ Z, (w6.setRow B Z).cell? ⟨B + 1, 0, none⟩ = some (.int .i64 0) := fun Z => by rw [cell_of_heap (hyz Z)]; rfl
            have hyf : ∀ Z, (w6.setRow B Z).frozen? ⟨B + 1, 0, none⟩ = false := fun Z => by simp [World.frozen?, hyz Z]
            have hyw9 : ∀ Z n, ((w6.setRow B Z).setCell ⟨B + 1, 0, none⟩ (.int .i64 n)).heap[B + 1]? = some (.cells #[.int .i64 n] 30 (0, 0)) := fun Z n => heap_setCell_same _ _ _ _ _ _ (hyz Z)
            have hxz : ∀ Z v, ((w6.setRow B Z).setCell ⟨B + 1, 0, none⟩ v).heap[B]? = some (.cells Z 23 (0, 0)) := fun Z v => (Below.heap_setCell _ _ _ _ (show B ≠ B + 1 by omega)).trans (setRow_heap _ _ _ _ _ _ hx6)
            have hBz : ∀ Z v, Below B w ((w6.setRow B Z).setCell ⟨B + 1, 0, none⟩ v) := fun Z v => (RW.below_setRow hBB6 (Nat.le_refl _) _).setCell (by show B ≤ B + 1; omega) _
            have hyzH := hide hyz; have hywH := hide hyw9; have hxzH := hide hxz; have hBzH := hide hBz
            have hL6 : (ldRow 23 (.pointer (some ⟨B + 1 + 1, 0, none⟩))).run Tryd.prog w6 = .ok (.agg (RW.fcells f T)) w6 := ldRow_eq _ _ _ _ _ _ _ hr6 Tryd.underlying23 rfl hi2
            clear hyz hyw9 hxz hBz hy6 hr6 hr5 hx5 hy5 hL5
          · go_wp2_with (refine wpList_store_row rfl 23 (.tmp 2) (.tmp 60) rfl B (RW.fcells RW.zeroF ⟨#[]⟩) rfl rfl 23 _ hx6 hi2 rfl (by simp [RW.fcells, Value.oneCell']) ?_)
            refine leaves_cons (f := 42) (args := #[.pointer (some ⟨B, 0, none⟩), .pointer (some ⟨B + 1, 0, none⟩)]) (by simp) (by simp [go_sem]) ?_
            refine ((catch_idle B _).mono (R' := fun e u' W => e = .returned (.tuple #[]) ∧ u' = .returning ∧ _ = W) (fun _ _ _ h => ⟨h.1, h.2.1, h.2.2.symm⟩)).mono ?_
            rintro e u' w9 ⟨rfl, rfl, rfl⟩
            refine ⟨_, dec_results _ _ B _ _ rfl rfl rfl (hxzH.out _ _) (hywH.out _ 50), ?_, ?_⟩
            · rw [RW.decF_some _ _ _ _ _ hd17H.out hDH.out (by rw [hllH.out]; omega), RW.decV_no _ _ (by rw [← hTsH.out]; exact hvH.out)]
            · rw [← hBH.out]; exact (hBzH.out _ _)
          · go_wp2_with (refine wpList_store_row rfl 23 (.tmp 2) (.tmp 64) rfl B (RW.fcells f T) rfl rfl 23 _ hx6 hi2 rfl (by simp [RW.fcells, Value.oneCell']) ?_)
            refine leaves_cons (f := 42) (args := #[.pointer (some ⟨B, 0, none⟩), .pointer (some ⟨B + 1, 0, none⟩)]) (by simp) (by simp [go_sem]) ?_
            refine ((catch_idle B _).mono (R' := fun e u' W => e = .returned (.tuple #[]) ∧ u' = .returning ∧ _ = W) (fun _ _ _ h => ⟨h.1, h.2.1, h.2.2.symm⟩)).mono ?_
            rintro e u' w9 ⟨rfl, rfl, rfl⟩
            refine ⟨_, dec_results _ _ B _ _ rfl rfl rfl (hxzH.out _ _) (hywH.out _ 0), ?_, ?_⟩
            · rw [RW.decF_some _ _ _ _ _ hd17H.out hDH.out (by rw [hllH.out]; omega), RW.decV_yes _ _ (by rw [← hTsH.out]; exact hvH.out), hTH.out]
            · rw [← hBH.out]; exact (hBzH.out _ _)
end Go.Proofs.YtpihhjpgdbcifaaDoor

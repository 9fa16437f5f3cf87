/-
  Journals, plain: what an attempt, a power failure and an opening leave behind: no program in sight.
-/
import Derived.Test.YtllbphanfahkkaaGreatDoorMY7
import Derived.Test.YtllbphanfahkkaaGreatDoorMQ1
import Derived.Test.YtllbphanfahkkaaGreatDoorMQ3
import Derived.Test.YtllbphanfahkkaaGreatDoorMA
import Derived.Test.YtllbphanfahkkaaGreatDoorMB
import Derived.Test.YtllbphanfahkkaaGreatDoorMY0
import Derived.IntWalk
namespace Go.Proofs.YtllbphanfahkkaaGreatDoor.RW
open Go Go.RowKit
section
variable {H : List UInt8 → List UInt8} (hH : ∀ l, (H l).length = 32)
/-- whatever survives a power failure, the disk then holds one of two lists of records -/
def EndP (H : List UInt8 → List UInt8) (n : Nat) (S : Dk) (was want : List ByteArray) : Prop := ∀ (keep : List Int) (torn : Int), ∃ c, S.crash keep torn = ⟨false, 0, c, c, []⟩ ∧ (Lies H n c was ∨ Lies H n c want)
theorem EndP.inv {n : Nat} {S : Dk} {rs : List ByteArray} (h : JInv H n S rs) : EndP H n S rs rs := fun keep torn => by
  obtain ⟨c, h1, h2⟩ := inv_crash H h keep torn
  exact ⟨c, h1, .inl h2⟩
/-- the disk with a cut scheduled -/
def Dk.cutAt (S : Dk) (k : Nat) : Dk := ⟨false, k, S.dur, S.vis, S.pend⟩
theorem inv_cutAt {n : Nat} {S : Dk} {rs : List ByteArray} (h : JInv H n S rs) (k : Nat) (hk : 1 ≤ k) : S.cut (k : Int) = (0, S.cutAt k) ∧ JInv H n (S.cutAt k) rs := by
  refine ⟨?_, h.vis, h.dur, h.pend, rfl, h.fits, h.lims⟩
  unfold Dk.cut Dk.cutAt
  rw [if_neg (by rw [h.off]; simp), if_neg (by omega), decide_eq_false (by omega), Int.toNat_natCast]
include hH
/-- an attempt while a cut may be scheduled: acknowledged, refused, or the power lost -/
theorem japp_end {n : Nat} {S : Dk} {rs : List ByteArray} (h : JInv H n S rs) (l : List ByteArray) (hl : ∀ r ∈ l, r.size ≤ 65536) :
    (∃ S', japp H n S rs false l = (0, rs ++ l, false, S') ∧ JInv H n S' (rs ++ l) ∧ (S.left = 0 → S'.left = 0)) ∨
    japp H n S rs false l = (231, rs, false, S) ∨
    (∃ S', japp H n S rs false l = (221, rs, true, S') ∧ S'.off = true ∧ S.left ≠ 0 ∧ EndP H n S' rs (rs ++ l) ∧ S'.pend.length = 1 ∧ S'.ok n) := by
  have hj := japp_out H hH h l
  by_cases hf : n - (stos H z32 rs).length < (stos H (hds H z32 rs) l).length
  · exact .inr (.inl (japp_full (no_long hl) hf))
  by_cases hnil : l = []
  · subst hnil
    rw [List.append_nil]
    exact .inl ⟨S, japp_none, h, id⟩
  generalize hX : japp H n S rs false l = X at hj
  cases hj with
  | same e he =>
    exfalso
    obtain ⟨R, hR⟩ : ∃ R, R = (if (wrsy n S ((stos H z32 rs).length + 1) ((stos H (hds H z32 rs) l).drop 1)).1 ≠ 0 then wrsy n S ((stos H z32 rs).length + 1) ((stos H (hds H z32 rs) l).drop 1) else wrsy n (wrsy n S ((stos H z32 rs).length + 1) ((stos H (hds H z32 rs) l).drop 1)).2 (stos H z32 rs).length ((stos H (hds H z32 rs) l).take 1)) := ⟨_, rfl⟩
    rw [japp_wr (no_long hl) hf hnil hR] at hX
    obtain ⟨R1, R2⟩ := R
    by_cases h0 : R1 ≠ 0
    · rw [if_pos h0] at hX
      injection hX with _ e2
      injection e2 with _ e3
      injection e3 with e4
      cases e4
    · rw [if_neg h0] at hX
      injection hX with e2
      omega
  | empty he => exact absurd he hnil
  | all S' g g0 => exact .inl ⟨S', rfl, g, g0⟩
  | lost S' hoff h0 hp =>
    refine .inr (.inr ⟨S', rfl, hoff, h0, fun keep torn => lost_crash H hp keep torn, ?_, ?_⟩)
    · obtain ⟨o, s, hp, _⟩ := hp
      rw [hp]
      rfl
    · obtain ⟨o, s, hp, hn, _⟩ := hp
      intro x hx
      rw [hp] at hx
      rcases List.mem_cons.1 hx with rfl | hx
      · show o + (strOf s).size ≤ n
        rw [strOf_size]
        exact hn
      · cases hx
omit hH
end
end Go.Proofs.YtllbphanfahkkaaGreatDoor.RW

/-
  Package fact: Decode: what it returns; only new memory is written.
-/
namespace Go.Proofs.YtllbphanfahkkaaGreatDoor
open Go.RowKit Go.Stop
namespace RW
def upd (f : Nat → Int) (j : Nat) (n : Int) (i : Nat) : Int := if i = j then n else f i
def decFrom : Nat → Nat → (Nat → Int) → List UInt8 → Option ((Nat → Int) × List UInt8)
  | 0, _, f, l => some (f, l)
  | k + 1, j, f, l => match decI l with
    | none => none
    | some (n, c) => decFrom k (j + 1) (upd f j n) (l.drop c)
theorem decFrom_none (k j : Nat) (f : Nat → Int) (l : List UInt8) (h : decI l = none) : decFrom (k + 1) j f l = none := by rw [decFrom, h]
theorem decFrom_some (k j : Nat) (f : Nat → Int) (l : List UInt8) (n : Int) (c : Nat) (h : decI l = some (n, c)) : decFrom (k + 1) j f l = decFrom k (j + 1) (upd f j n) (l.drop c) := by rw [decFrom, h]
/-- the numbers and the text of an encoding -/
def decF (l : List UInt8) : Option ((Nat → Int) × List UInt8) := match decFrom 17 0 zeroF l with
  | none => none
  | some (f, r) => match decS r with
    | none => none
    | some (t, c) => if c < r.length then none else some (f, t)
noncomputable def decV : Option ((Nat → Int) × List UInt8) → Value
  | none => .tuple #[.agg (fcells zeroF ⟨#[]⟩), .int .i64 10]
  | some (f, t) => match validB f t.length with
    | true => .tuple #[.agg (fcells f ⟨t.toArray⟩), .int .i64 0]
    | false => .tuple #[.agg (fcells zeroF ⟨#[]⟩), .int .i64 50]
theorem decS_le (l : List UInt8) (t : List UInt8) (c : Nat) (h : decS l = some (t, c)) : c ≤ l.length ∧ t.length ≤ l.length ∧ t.length ≤ 65536 := by
  rcases hI : decI l with _ | ⟨n, k⟩
  · rw [decS_none _ hI] at h; cases h
  · rw [decS_some _ _ _ hI] at h
    have hk := decI_le _ _ _ hI
    split at h
    · cases h
    · simp at h
      obtain ⟨h1, h2⟩ := h
      subst h1
      simp
      omega
theorem decF_none (l : List UInt8) (h : decFrom 17 0 zeroF l = none) : decF l = none := by unfold decF; rw [h]
theorem decF_bad (l : List UInt8) (f : Nat → Int) (r : List UInt8) (h : decFrom 17 0 zeroF l = some (f, r)) (hs : decS r = none) : decF l = none := by unfold decF; rw [h]; simp only [hs]
theorem decF_more (l : List UInt8) (f : Nat → Int) (r t : List UInt8) (c : Nat) (h : decFrom 17 0 zeroF l = some (f, r)) (hs : decS r = some (t, c)) (hc : c < r.length) : decF l = none := by unfold decF; rw [h]; simp only [hs, if_pos hc]
theorem decF_some (l : List UInt8) (f : Nat → Int) (r t : List UInt8) (c : Nat) (h : decFrom 17 0 zeroF l = some (f, r)) (hs : decS r = some (t, c)) (hc : ¬ c < r.length) : decF l = some (f, t) := by unfold decF; rw [h]; simp only [hs, if_neg hc]
theorem decV_yes (f : Nat → Int) (t : List UInt8) (h : validB f t.length = true) : decV (some (f, t)) = .tuple #[.agg (fcells f ⟨t.toArray⟩), .int .i64 0] := by unfold decV; simp only [h]
theorem decV_no (f : Nat → Int) (t : List UInt8) (h : validB f t.length = false) : decV (some (f, t)) = .tuple #[.agg (fcells zeroF ⟨#[]⟩), .int .i64 50] := by unfold decV; simp only [h]
theorem fcells_upd (f : Nat → Int) (s : ByteArray) (j : Nat) (n : Int) (h : j < 17) : (fcells f s).setIfInBounds j (.int .i64 n) = fcells (upd f j n) s := by
  apply fcells_ext
  · simp [fcells_size]
  · intro i hi
    rw [Array.getElem?_setIfInBounds]
    unfold upd
    by_cases e : j = i
    · subst e; rw [if_pos rfl, if_pos rfl, if_pos (by rw [fcells_size]; omega)]
    · rw [if_neg e, if_neg (Ne.symm e), fcells_get _ _ _ hi]
  · rw [Array.getElem?_setIfInBounds, if_neg (by omega), fcells_text]
theorem fcells_settext (f : Nat → Int) (s u : ByteArray) : (fcells f s).setIfInBounds 17 (.string u) = fcells f u := by
  apply fcells_ext
  · simp [fcells_size]
  · intro i hi; rw [Array.getElem?_setIfInBounds, if_neg (by omega), fcells_get _ _ _ hi]
  · rw [Array.getElem?_setIfInBounds, if_pos rfl, if_pos (by rw [fcells_size]; decide)]
end RW
theorem dec_results (tmps : Array Value) (w : World) (B : Nat) (cs : Array Value) (v : Int) (hn : cs.size = 18) (h2 : tmps[2]? = some (.pointer (some ⟨B, 0, none⟩))) (h3 : tmps[3]? = some (.pointer (some ⟨B + 1, 0, none⟩)))
    (hx : w.heap[B]? = some (.cells cs 70 (0, 0))) (hy : w.heap[B + 1]? = some (.cells #[.int .i64 v] 33 (0, 0))) :
    (results Tryz.f36 tmps).run Tryz.prog w = .ok (.tuple #[.agg cs, .int .i64 v]) w := by
  have hi1 : (Tryz.prog.info? 70).map (·.size) = some cs.size := by rw [hn]; kernel_rfl
  have e1 := run_loadVar_row (P := Tryz.prog) w B 70 70 cs (0, 0) _ hx Tryz.underlying70 rfl hi1
  have e2 : w.cell? ⟨B + 1, 0, none⟩ = some (.int .i64 v) := by rw [cell_of_heap hy]; rfl
  have e3 : (loadVar 33 ⟨B + 1, 0, none⟩).run Tryz.prog w = .ok (.int .i64 v) w := by simp [go_sem, e2]
  simp [results, Tryz.results36, h2, h3, asAddr, e1, e3]
attribute [local go_sem ↓] ldRow_fact
set_option maxRecDepth 100000 in
set_option maxHeartbeats 8000000 in
theorem decode_any (s : ByteArray) (hs : s.size ≤ 1099511627776) (a : Addr) (w : World) (hg : w.cell? ⟨0, 0, none⟩ = some (RW.eW a)) :
    Calls Tryz.prog 36 #[.string s] w fun e w' => e = .returned (RW.decV (RW.decF s.data.toList)) ∧ Below w.heap.size w w' := by
  have hmf : ∀ (fn : Fn) (first cap : Array Value) (w : World), (Instr.makeFunc fn first cap).run Tryz.prog w = .ok (.func fn first cap) w := fun _ _ _ _ => rfl
  have hgl : 0 < w.heap.size := by
    cases h : w.heap[0]? with
    | none => simp [World.cell?, h] at hg
    | some o => exact (Array.getElem?_eq_some_iff.1 h).1
  go_enter_defers Tryz.func36, Tryz.ntmps36
  go_wp2_with fail
  refine (numbers_any _ _).mono ?_
  rintro e w4 ⟨rfl, hB4⟩
  simp only [World.size_alloc] at hB4
  obtain ⟨B, hB⟩ : ∃ B, B = w.heap.size := ⟨_, rfl⟩
  rw [← hB] at hgl hB4 ⊢
  have hx4 : w4.heap[B]? = some (.cells (RW.fcells RW.zeroF ⟨#[]⟩) 70 (0, 0)) := by
    rw [fzero]
    exact (hB4.block _ (by omega)).trans ((Below.heap_alloc _ _ _ (by simp; omega)).trans ((Below.heap_alloc _ _ _ (by simp; omega)).trans (heap_new_at hB)))
  have hy4 : w4.heap[B + 1]? = some (.cells #[.int .i64 0] 33 (0, 0)) :=
    (hB4.block _ (by omega)).trans ((Below.heap_alloc _ _ _ (by simp; omega)).trans (heap_new_at (by simp; omega)))
  have hr4 : w4.heap[B + 2]? = some (.cells (RW.fcells RW.zeroF ⟨#[]⟩) 142 (0, 0)) := by
    rw [fzero]
    exact (hB4.block _ (by omega)).trans (heap_new_at (by simp; omega))
  have hBB4 : Below B w w4 := (((((Below.refl B w).alloc (by omega) _).alloc (by simp; omega) _).alloc (by simp; omega) _).trans (hB4.mono (by omega)))
  have hs4 : B + 3 ≤ w4.heap.size := by have := hB4.size; simp at this; omega
  have hr5 : (Tryz.prog.info? 144).map (·.size) = some 1 := by kernel_rfl
  have hix : ∀ j : Nat, j < 17 → ∀ W', (Instr.index 147 (.agg (RW.ptrs (B + 1 + 1))) (.int .i64 (j : Int))).run Tryz.prog W' = .ok (.pointer (some ⟨B + 1 + 1, j, none⟩)) W' := fun j hj W' => by
    have h1 := RW.ptrs_get (B + 1 + 1) j hj
    cases hq : Tryz.prog.info? 144 with
    | none => simp [hq] at hr5
    | some inf =>
      have h2 : inf.size = 1 := by simpa [hq] using hr5
      simp [Instr.index, asIntOf, run_underlying Tryz.underlying147, hj, part, isAgg, run_underlying Tryz.underlying144, sizeOf, typeInfo, hq, h2, h1]
  have hixH := hide hix
  have hgH := hide hg
  have hBH := hide hB
  clear hix hB4 hr5 hg hB
  go_wp2_with fail
  go_loopw [5, 18] (fun p i wr => ∃ (j at_ : Nat) (f : Nat → Int), j ≤ 17 ∧ at_ ≤ s.size ∧ i = .int .i64 j ∧ p = .int .i64 at_ ∧ Hid (RW.decFrom (17 - j) j f (s.data.toList.drop at_) = RW.decFrom 17 0 RW.zeroF s.data.toList) ∧
      wr.heap[B + 2]? = some (.cells (RW.fcells f ⟨#[]⟩) 142 (0, 0)) ∧ wr.heap[B]? = some (.cells (RW.fcells RW.zeroF ⟨#[]⟩) 70 (0, 0)) ∧ wr.heap[B + 1]? = some (.cells #[.int .i64 0] 33 (0, 0)) ∧ Below B w wr ∧ B + 3 ≤ wr.heap.size)
    (fun _ i _ => 17 - (intOf i).toNat)
  case atStart => exact ⟨0, 0, RW.zeroF, by omega, by omega, rfl, rfl, rfl, hr4, hx4, hy4, hBB4, hs4⟩
  case round =>
    clear hr4 hx4 hy4 hBB4 hs4
    obtain ⟨j, at_, f, hj, hat, rfl, rfl, hd, hrw, hxw, hyw, hBw, hsw⟩ := hrel
    have hgw : wr.cell? ⟨0, 0, none⟩ = some (RW.eW a) := (World.cell?_of_block (a := ⟨0, 0, none⟩) (hBw.block _ hgl)).trans hgH.out
    by_cases hlt : j < 17
    · have hix := hixH.out j hlt
      have hI := int_walk s at_ wr (by omega) hat
      rcases hD : RW.decI (s.data.toList.drop at_) with _ | ⟨n, c⟩
      · rw [hD] at hI
        have hIH := hide hI
        have hdn := hide (RW.decFrom_none (17 - j - 1) j f _ hD)
        clear hI hD
        go_wp2_with (first | (go_at_call 80; refine hIH.out.mono ?_; rintro e w' ⟨rfl, rfl⟩; unfold intRes) | (go_at_call 81; refine (check_bad 10 rfl a _ hgw).mono ?_; rintro e w' ⟨rfl, rfl⟩))
        refine leaves_cons (f := 78) (args := #[.pointer (some ⟨B, 0, none⟩), .pointer (some ⟨B + 1, 0, none⟩)]) (by simp) (by simp [go_sem]) ?_
        refine (catch_panicking B a _ 0 _ hgw hgl hxw rfl hyw).mono ?_
        rintro e u' w9 ⟨rfl, rfl, hx9, hy9, hB9⟩
        refine ⟨_, dec_results _ _ B _ _ rfl rfl rfl hx9 hy9, ?_, ?_⟩
        · rw [RW.decF_none _ (by rw [← hd.out, show 17 - j = 17 - j - 1 + 1 by omega]; exact hdn.out)]; rfl
        · rw [← hBH.out]; exact hBw.trans hB9
      · rw [hD] at hI
        have hkl := RW.decI_le _ _ _ hD
        have hnb := RW.decI_bd _ _ _ hD
        have hIH := hide hI
        have hdn := hide (RW.decFrom_some (17 - j - 1) j f _ n c hD)
        have hll : (s.data.toList.drop at_).length = s.size - at_ := by simp
        rw [hll] at hkl
        have cj : wr.cell? ⟨B + 1 + 1, j, none⟩ = some (.int .i64 (f j)) := by rw [show B + 1 + 1 = B + 2 from rfl, cell_of_heap hrw, fcells_get _ _ _ hlt]
        have fj : wr.frozen? ⟨B + 1 + 1, j, none⟩ = false := by rw [show B + 1 + 1 = B + 2 from rfl]; simp [World.frozen?, hrw]
        have hhd := hide hll
        clear hI hD hll
        go_wp2_with (first | (go_at_call 80; refine hIH.out.mono ?_; rintro e w' ⟨rfl, rfl⟩; unfold intRes) | (go_at_call 81; refine (check_ok _).mono ?_; rintro e w' ⟨rfl, rfl⟩))
        go_roundw
        case rel =>
          refine ⟨j + 1, at_ + c, RW.upd f j n, by omega, by omega, by go_num, by go_num, ?_, ?_, ?_, ?_, hBw.setCell (by show B ≤ B + 1 + 1; omega) _, by simpa using hsw⟩
          · show _ = _
            rw [← hd.out, show 17 - j = 17 - j - 1 + 1 by omega, hdn.out, List.drop_drop, show 17 - (j + 1) = 17 - j - 1 by omega]
          · rw [← RW.fcells_upd f _ j n hlt]; exact heap_setCell_same _ _ _ _ _ _ hrw
          · exact (Below.heap_setCell _ _ _ _ (show B ≠ B + 1 + 1 by omega)).trans hxw
          · exact (Below.heap_setCell _ _ _ _ (show B + 1 ≠ B + 1 + 1 by omega)).trans hyw
        case measure => simp [intOf]; omega
    · obtain rfl : j = 17 := by omega
      have hd17 : RW.decFrom 17 0 RW.zeroF s.data.toList = some (f, s.data.toList.drop at_) := hd.out.symm
      have hS := str_walk s at_ wr (by omega) hat
      have yc : wr.cell? ⟨B + 1, 0, none⟩ = some (.int .i64 0) := by rw [cell_of_heap hyw]; rfl
      have yf : wr.frozen? ⟨B + 1, 0, none⟩ = false := by simp [World.frozen?, hyw]
      have hgs : ∀ v, (wr.setCell ⟨B + 1, 0, none⟩ v).cell? ⟨0, 0, none⟩ = some (RW.eW a) := fun v => (World.cell?_of_block (a := ⟨0, 0, none⟩) (Below.heap_setCell _ _ _ _ (show 0 ≠ B + 1 by omega))).trans hgw
      have hxs : ∀ v, (wr.setCell ⟨B + 1, 0, none⟩ v).heap[B]? = some (.cells (RW.fcells RW.zeroF ⟨#[]⟩) 70 (0, 0)) := fun v => (Below.heap_setCell _ _ _ _ (show B ≠ B + 1 by omega)).trans hxw
      have hys : ∀ n, (wr.setCell ⟨B + 1, 0, none⟩ (.int .i64 n)).heap[B + 1]? = some (.cells #[.int .i64 n] 33 (0, 0)) := fun n => heap_setCell_same _ _ _ _ _ _ hyw
      have hrs : ∀ v, (wr.setCell ⟨B + 1, 0, none⟩ v).heap[B + 2]? = some (.cells (RW.fcells f ⟨#[]⟩) 142 (0, 0)) := fun v => (Below.heap_setCell _ _ _ _ (show B + 2 ≠ B + 1 by omega)).trans hrw
      have hBs : ∀ v, Below B w (wr.setCell ⟨B + 1, 0, none⟩ v) := fun v => hBw.setCell (by show B ≤ B + 1; omega) _
      have hxsH := hide hxs; have hysH := hide hys; have hrsH := hide hrs; have hd17H := hide hd17
      clear hxs hys hrs hyw hxw hrw hd17
      rcases hD : RW.decS (s.data.toList.drop at_) with _ | ⟨t, c⟩
      · rw [hD] at hS
        have hSH := hide hS
        have hDH := hide hD
        clear hS hD
        have hga := hgs (.int .i64 10)
        go_wp2_with (first | (go_at_call 82; refine hSH.out.mono ?_; rintro e w' ⟨rfl, rfl⟩; unfold strRes) | (go_at_call 81; refine (check_bad 10 rfl a _ hga).mono ?_; rintro e w' ⟨rfl, rfl⟩))
        refine leaves_cons (f := 78) (args := #[.pointer (some ⟨B, 0, none⟩), .pointer (some ⟨B + 1, 0, none⟩)]) (by simp) (by simp [go_sem]) ?_
        refine (catch_panicking B a _ 10 _ hga hgl (hxsH.out _) rfl (hysH.out 10)).mono ?_
        rintro e u' w9 ⟨rfl, rfl, hx9, hy9, hB9⟩
        refine ⟨_, dec_results _ _ B _ _ rfl rfl rfl hx9 hy9, ?_, ?_⟩
        · rw [RW.decF_bad _ _ _ hd17H.out hDH.out]; rfl
        · rw [← hBH.out]; exact (hBs _).trans hB9
      · rw [hD] at hS
        have hkl := RW.decS_le _ _ _ hD
        have hll : (s.data.toList.drop at_).length = s.size - at_ := by simp
        rw [hll] at hkl
        have hSH := hide hS
        have hDH := hide hD
        have hllH := hide hll
        clear hS hD hll
        have hgb := hgs (.int .i64 0)
        by_cases hm : at_ + c < s.size
        · go_wp2_with (first | (go_at_call 82; refine hSH.out.mono ?_; rintro e w' ⟨rfl, rfl⟩; unfold strRes) | (go_at_call 81; first | (refine (check_ok _).mono ?_; rintro e w' ⟨rfl, rfl⟩) | (refine (check_bad 10 rfl a _ hgb).mono ?_; rintro e w' ⟨rfl, rfl⟩)))
          refine leaves_cons (f := 78) (args := #[.pointer (some ⟨B, 0, none⟩), .pointer (some ⟨B + 1, 0, none⟩)]) (by simp) (by simp [go_sem]) ?_
          refine (catch_panicking B a _ 0 _ hgb hgl (hxsH.out _) rfl (hysH.out 0)).mono ?_
          rintro e u' w9 ⟨rfl, rfl, hx9, hy9, hB9⟩
          refine ⟨_, dec_results _ _ B _ _ rfl rfl rfl hx9 hy9, ?_, ?_⟩
          · rw [RW.decF_more _ _ _ _ _ hd17H.out hDH.out (by rw [hllH.out]; omega)]; rfl
          · rw [← hBH.out]; exact (hBs _).trans hB9
        · have hc17 : (wr.setCell ⟨B + 1, 0, none⟩ (.int .i64 0)).cell? ⟨B + 1 + 1, 17, none⟩ = some (.string ⟨#[]⟩) := by rw [show B + 1 + 1 = B + 2 from rfl, cell_of_heap (hrsH.out _), fcells_text]
          have hf17 : (wr.setCell ⟨B + 1, 0, none⟩ (.int .i64 0)).frozen? ⟨B + 1 + 1, 17, none⟩ = false := by rw [show B + 1 + 1 = B + 2 from rfl]; simp [World.frozen?, hrsH.out]
          obtain ⟨T, hT⟩ : ∃ T : ByteArray, T = ⟨t.toArray⟩ := ⟨_, rfl⟩
          have hTs : T.size = t.length := by rw [hT]; show t.toArray.size = _; simp
          obtain ⟨W5, hW5⟩ : ∃ W5, W5 = (wr.setCell ⟨B + 1, 0, none⟩ (.int .i64 0)).setCell ⟨B + 1 + 1, 17, none⟩ (.string T) := ⟨_, rfl⟩
          have hr5 : W5.heap[B + 1 + 1]? = some (.cells (RW.fcells f T) 142 (0, 0)) := by rw [hW5, ← RW.fcells_settext f ⟨#[]⟩ T]; exact heap_setCell_same _ _ _ _ _ _ (hrsH.out _)
          have hx5 : W5.heap[B]? = some (.cells (RW.fcells RW.zeroF ⟨#[]⟩) 70 (0, 0)) := by rw [hW5]; exact (Below.heap_setCell _ _ _ _ (show B ≠ B + 1 + 1 by omega)).trans (hxsH.out _)
          have hy5 : W5.heap[B + 1]? = some (.cells #[.int .i64 0] 33 (0, 0)) := by rw [hW5]; exact (Below.heap_setCell _ _ _ _ (show B + 1 ≠ B + 1 + 1 by omega)).trans (hysH.out 0)
          have hB5 : Below B w W5 := by rw [hW5]; exact (hBs _).setCell (by show B ≤ B + 1 + 1; omega) _
          have hs5 : B + 3 ≤ W5.heap.size := by rw [hW5]; simpa using hsw
          have hi2 : (Tryz.prog.info? 70).map (·.size) = some (18 : Nat) := by kernel_rfl
          have hL5 : (ldRow 70 (.pointer (some ⟨B + 1 + 1, 0, none⟩))).run Tryz.prog ((wr.setCell ⟨B + 1, 0, none⟩ (.int .i64 0)).setCell ⟨B + 1 + 1, 17, none⟩ (.string T)) = .ok (.agg (RW.fcells f T)) ((wr.setCell ⟨B + 1, 0, none⟩ (.int .i64 0)).setCell ⟨B + 1 + 1, 17, none⟩ (.string T)) := by
            rw [← hW5]; exact ldRow_eq _ _ _ _ _ _ _ hr5 Tryz.underlying70 rfl hi2
          have hW5H := hide hW5
          have hTH := hide hT
          have hTsH := hide hTs
          clear hW5 hTs
          have hSR : Hid (strRes at_ (some (t, c)) = .tuple #[.string T, .int .i64 ((at_ + c : Nat) : Int), .int .i64 0]) := by rw [hT]; rfl
          clear hT
          have hV := valid_any f T
          cases hv : RW.validB f T.size
          all_goals
            rw [hv] at hV
            have hvH := hide hv
            have hVH := hide hV
            clear hv hV
            go_wp2_with (first | (go_at_call 82; refine hSH.out.mono ?_; rintro e w' ⟨rfl, rfl⟩; rw [hSR.out]) | (go_at_call 81; refine (check_ok _).mono ?_; rintro e w' ⟨rfl, rfl⟩))
            refine (hVH.out _).mono ?_
            rw [← hW5H.out]
            rintro e w6 ⟨rfl, hB6⟩
            have hx6 := (hB6.block B (by omega)).trans hx5
            have hy6 := (hB6.block (B + 1) (by omega)).trans hy5
            have hr6 := (hB6.block (B + 1 + 1) (by omega)).trans hr5
            have hBB6 := hB5.trans (hB6.mono (by omega))
            have hyz : ∀ Z, (w6.setRow B Z).heap[B + 1]? = some (.cells #[.int .i64 0] 33 (0, 0)) := fun Z => by
              rw [← hy6]; simp only [World.setRow, Array.getElem?_modify]; rw [if_neg (by omega)]
            have hyc : ∀ Z, (w6.setRow B Z).cell? ⟨B + 1, 0, none⟩ = some (.int .i64 0) := fun Z => by rw [cell_of_heap (hyz Z)]; rfl
            have hyf : ∀ Z, (w6.setRow B Z).frozen? ⟨B + 1, 0, none⟩ = false := fun Z => by simp [World.frozen?, hyz Z]
            have hyw9 : ∀ Z n, ((w6.setRow B Z).setCell ⟨B + 1, 0, none⟩ (.int .i64 n)).heap[B + 1]? = some (.cells #[.int .i64 n] 33 (0, 0)) := fun Z n => heap_setCell_same _ _ _ _ _ _ (hyz Z)
            have hxz : ∀ Z v, ((w6.setRow B Z).setCell ⟨B + 1, 0, none⟩ v).heap[B]? = some (.cells Z 70 (0, 0)) := fun Z v => (Below.heap_setCell _ _ _ _ (show B ≠ B + 1 by omega)).trans (setRow_heap _ _ _ _ _ _ hx6)
            have hBz : ∀ Z v, Below B w ((w6.setRow B Z).setCell ⟨B + 1, 0, none⟩ v) := fun Z v => (RW.below_setRow hBB6 (Nat.le_refl _) _).setCell (by show B ≤ B + 1; omega) _
            have hyzH := hide hyz; have hywH := hide hyw9; have hxzH := hide hxz; have hBzH := hide hBz
            have hL6 : (ldRow 70 (.pointer (some ⟨B + 1 + 1, 0, none⟩))).run Tryz.prog w6 = .ok (.agg (RW.fcells f T)) w6 := ldRow_eq _ _ _ _ _ _ _ hr6 Tryz.underlying70 rfl hi2
            clear hyz hyw9 hxz hBz hy6 hr6 hr5 hx5 hy5 hL5
          · go_wp2_with (refine wpList_store_row rfl 70 (.tmp 2) (.tmp 60) rfl B (RW.fcells RW.zeroF ⟨#[]⟩) rfl rfl 70 _ hx6 hi2 rfl (by simp [RW.fcells, Value.oneCell']) ?_)
            refine leaves_cons (f := 78) (args := #[.pointer (some ⟨B, 0, none⟩), .pointer (some ⟨B + 1, 0, none⟩)]) (by simp) (by simp [go_sem]) ?_
            refine ((catch_idle B _).mono (R' := fun e u' W => e = .returned (.tuple #[]) ∧ u' = .returning ∧ _ = W) (fun _ _ _ h => ⟨h.1, h.2.1, h.2.2.symm⟩)).mono ?_
            rintro e u' w9 ⟨rfl, rfl, rfl⟩
            refine ⟨_, dec_results _ _ B _ _ rfl rfl rfl (hxzH.out _ _) (hywH.out _ 50), ?_, ?_⟩
            · rw [RW.decF_some _ _ _ _ _ hd17H.out hDH.out (by rw [hllH.out]; omega), RW.decV_no _ _ (by rw [← hTsH.out]; exact hvH.out)]
            · rw [← hBH.out]; exact (hBzH.out _ _)
          · go_wp2_with (refine wpList_store_row rfl 70 (.tmp 2) (.tmp 64) rfl B (RW.fcells f T) rfl rfl 70 _ hx6 hi2 rfl (by simp [RW.fcells, Value.oneCell']) ?_)
            refine leaves_cons (f := 78) (args := #[.pointer (some ⟨B, 0, none⟩), .pointer (some ⟨B + 1, 0, none⟩)]) (by simp) (by simp [go_sem]) ?_
            refine ((catch_idle B _).mono (R' := fun e u' W => e = .returned (.tuple #[]) ∧ u' = .returning ∧ _ = W) (fun _ _ _ h => ⟨h.1, h.2.1, h.2.2.symm⟩)).mono ?_
            rintro e u' w9 ⟨rfl, rfl, rfl⟩
            refine ⟨_, dec_results _ _ B _ _ rfl rfl rfl (hxzH.out _ _) (hywH.out _ 0), ?_, ?_⟩
            · rw [RW.decF_some _ _ _ _ _ hd17H.out hDH.out (by rw [hllH.out]; omega), RW.decV_yes _ _ (by rw [← hTsH.out]; exact hvH.out), hTH.out]
            · rw [← hBH.out]; exact (hBzH.out _ _)
end Go.Proofs.YtllbphanfahkkaaGreatDoor

/-
  Plain laws on encodings: what is encoded is decoded, what is decoded was encoded, and more bytes are not accepted: no program in sight.
-/
namespace Go.Proofs.YtllbphanfahkkaaGreatDoor.RW
open Go Go.RowKit
/-- numbers of a fact, nothing beyond -/
def low (f : Nat → Int) (j i : Nat) : Int := if i < j then f i else 0
theorem upd_low (f : Nat → Int) (j : Nat) : upd (low f j) j (f j) = low f (j + 1) := by
  funext i
  unfold upd low
  by_cases h : i = j
  · subst h; simp
  · rw [if_neg h]
    by_cases h2 : i < j
    · rw [if_pos h2, if_pos (by omega)]
    · rw [if_neg h2, if_neg (by omega)]
theorem low_zero (f : Nat → Int) : low f 0 = zeroF := by funext i; simp [low, zeroF]
def encFrom (f : Nat → Int) : Nat → Nat → List UInt8
  | 0, _ => []
  | k + 1, j => putI (f j) ++ encFrom f k (j + 1)
theorem encTo_from (f : Nat → Int) (k : Nat) : ∀ j, encTo f (j + k) = encTo f j ++ encFrom f k j := by
  induction k with
  | zero => intro j; simp [encFrom]
  | succ k ih => intro j; rw [show j + (k + 1) = (j + 1) + k by omega, ih, encTo_succ, encFrom, List.append_assoc]
theorem decFrom_enc (f : Nat → Int) (hb : ∀ i, i < 17 → -4611686018427387903 ≤ f i ∧ f i ≤ 4611686018427387903) (k : Nat) : ∀ (j : Nat) (rest : List UInt8), j + k = 17 →
    decFrom k j (low f j) (encFrom f k j ++ rest) = some (low f 17, rest) := by
  induction k with
  | zero => intro j rest h; obtain rfl : j = 17 := (by omega); rfl
  | succ k ih =>
    intro j rest h
    have h1 := hb j (by omega)
    rw [encFrom, List.append_assoc, decFrom_some _ _ _ _ _ _ (decI_putI (f j) h1.1 h1.2 _), upd_low, List.drop_left]
    exact ih (j + 1) rest (by omega)
theorem decF_enc (f : Nat → Int) (s : List UInt8) (hb : ∀ i, i < 17 → -4611686018427387903 ≤ f i ∧ f i ≤ 4611686018427387903) (hs : s.length ≤ 65536) : decF (encL f s) = some (low f 17, s) := by
  have h := decFrom_enc f hb 17 0 (putS s) rfl
  rw [low_zero] at h
  have e : encL f s = encFrom f 17 0 ++ putS s := by
    unfold encL
    rw [show encTo f 17 = encTo f (0 + 17) from rfl, encTo_from]; rfl
  have h2 := decS_putS s [] hs
  rw [List.append_nil] at h2
  rw [e]
  exact decF_some _ _ _ _ _ h h2 (by omega)
theorem decFrom_take (k : Nat) : ∀ (j : Nat) (f g : Nat → Int) (l r : List UInt8), decFrom k j f l = some (g, r) → l = encFrom g k j ++ r ∧ (∀ i, i < j → g i = f i) := by
  induction k with
  | zero =>
    intro j f g l r h
    simp [decFrom] at h
    obtain ⟨rfl, rfl⟩ := h
    exact ⟨rfl, fun _ _ => rfl⟩
  | succ k ih =>
    intro j f g l r h
    rcases hI : decI l with _ | ⟨n, c⟩
    · rw [decFrom_none _ _ _ _ hI] at h; cases h
    · rw [decFrom_some _ _ _ _ _ _ hI] at h
      obtain ⟨h1, h2⟩ := ih _ _ _ _ _ h
      have hg : g j = n := by rw [h2 j (by omega)]; simp [upd]
      refine ⟨?_, fun i hi => ?_⟩
      · rw [encFrom, hg, List.append_assoc, ← h1, ← decI_take _ _ _ hI, List.take_append_drop]
      · rw [h2 i (by omega)]; unfold upd; rw [if_neg (by omega)]
theorem decF_take (l : List UInt8) (f : Nat → Int) (t : List UInt8) (h : decF l = some (f, t)) : l = encL f t ∧ t.length ≤ 65536 := by
  unfold decF at h
  rcases hd : decFrom 17 0 zeroF l with _ | ⟨g, r⟩
  · rw [hd] at h; cases h
  · rw [hd] at h
    simp only at h
    rcases hs : decS r with _ | ⟨u, c⟩
    · rw [hs] at h; cases h
    · rw [hs] at h
      simp only at h
      split at h
      · cases h
      · rename_i hc
        simp at h
        obtain ⟨rfl, rfl⟩ := h
        obtain ⟨h1, _⟩ := decFrom_take _ _ _ _ _ _ hd
        obtain ⟨h2, h3⟩ := decS_take _ _ _ hs
        refine ⟨?_, h3⟩
        rw [List.take_of_length_le (by omega)] at h2
        unfold encL
        rw [show encTo g 17 = encTo g (0 + 17) from rfl, encTo_from, ← h2]
        exact h1
theorem decFrom_append (k : Nat) : ∀ (j : Nat) (f g : Nat → Int) (l m r : List UInt8), decFrom k j f l = some (g, r) → decFrom k j f (l ++ m) = some (g, r ++ m) := by
  induction k with
  | zero => intro j f g l m r h; simp [decFrom] at h ⊢; exact ⟨h.1, by rw [h.2]⟩
  | succ k ih =>
    intro j f g l m r h
    rcases hI : decI l with _ | ⟨n, c⟩
    · rw [decFrom_none _ _ _ _ hI] at h; cases h
    · rw [decFrom_some _ _ _ _ _ _ hI] at h
      have hk := decI_le _ _ _ hI
      rw [decFrom_some _ _ _ _ _ _ (decI_append l m n c hI), List.drop_append_of_le_length (by omega)]
      exact ih _ _ _ _ _ _ h
/-- more bytes are not accepted -/
theorem decF_append (l m : List UInt8) (p : (Nat → Int) × List UInt8) (h : decF l = some p) (hm : m ≠ []) : decF (l ++ m) = none := by
  unfold decF at h
  rcases hd : decFrom 17 0 zeroF l with _ | ⟨g, r⟩
  · rw [hd] at h; cases h
  · rw [hd] at h
    simp only at h
    rcases hs : decS r with _ | ⟨u, c⟩
    · rw [hs] at h; cases h
    · rw [hs] at h
      simp only at h
      have hcl := decS_le _ _ _ hs
      exact decF_more _ _ _ _ _ (decFrom_append _ _ _ _ _ _ _ hd) (decS_append _ m _ _ hs) (by
        have : 0 < m.length := List.length_pos_iff.2 hm
        rw [List.length_append]; omega)
end Go.Proofs.YtllbphanfahkkaaGreatDoor.RW

/-
  Package royaltyref02: extended, constants: what they return; only new memory is written.
-/
namespace Go.Proofs.YtllbphanfahkkaaGreatDoor
open Go.RowKit
theorem info_u8 : (Tryz.prog.info? 5).map (fun i => (i.zero, i.size, i.bytes)) = some (some (.int .u8 0), 1, 1) := by kernel_rfl
theorem info_u32 : (Tryz.prog.info? 119).map (fun i => (i.zero, i.size, i.bytes)) = some (some (.int .u32 0), 1, 4) := by kernel_rfl
/-- behind an append of what was just built -/
theorem below_app {B : Nat} {w wr w3 : World} {e : TypeId} {size n : Nat} {v : Value} {xs : List Value} {o : Obj} (hB : Below B w wr) (hs : B ≤ wr.heap.size) (hown : wr.ownsRow B e size v n xs) (hg : (wr.alloc o).grownBy w3 v.ownBlock) : Below B w w3 ∧ B ≤ w3.heap.size := by
  have h1 := hB.alloc hs o
  have h2 := hg.size
  simp at h2
  exact ⟨h1.grown hg (by simp; omega) (fun k hk => (hown.lt k hk).1), by omega⟩
theorem owns_form {w : World} {B : Nat} {e : TypeId} {v : Value} {n size : Nat} {xs : List Value} (h : w.ownsRow B e size v n xs) : ∃ a cap, v = .slice a n cap := by
  rcases h.2 with ⟨h1, h2⟩ | ⟨g, cap, cur, h2, _⟩
  · exact ⟨none, 0, by rw [h1, h2]⟩
  · exact ⟨_, _, h2⟩
def ExtPost (s : ByteArray) (w : World) (e : Ending) (w' : World) : Prop :=
  ∃ v, e = .returned v ∧ w'.ownsRow w.heap.size 5 1 v (RW.padL s.data.toList).length (RW.bytesV (RW.padL s.data.toList)) ∧ Below w.heap.size w w'
set_option maxRecDepth 100000 in
set_option maxHeartbeats 4000000 in
theorem extended_any (s : ByteArray) (hs : s.size ≤ 1099511627776) (w : World) :
    Calls Tryz.prog 63 #[.string s] w (ExtPost s w) := by
  obtain ⟨i0, hi, hz0, hz1, hz2⟩ := info_parts info_u8
  obtain ⟨B, hB⟩ : ∃ b, b = w.heap.size := ⟨_, rfl⟩
  have hBH := hide hB
  have hwB := hide (show B ≤ w.heap.size by omega)
  clear hB
  go_enter Tryz.func63, Tryz.ntmps63
  go_wp2
  go_loopw [3, 4] (fun v i wr => ∃ k : Nat, k ≤ s.size ∧ i = .int .i64 k ∧ wr.ownsRow B 5 1 v k (RW.bytesV (s.data.toList.take k)) ∧ Below B w wr ∧ B ≤ wr.heap.size) (fun _ i _ => s.size - (intOf i).toNat)
  case atStart => exact ⟨0, by omega, rfl, World.ownsRow_nil _ _ _ _, Below.refl _ _, hwB.out⟩
  case round =>
    obtain ⟨k, hk, rfl, hown, hBw, hBs⟩ := hrel
    by_cases hlt : k < s.size
    · have ht : RW.bytesV (s.data.toList.take k) ++ [.int .u8 (s[k].toNat : Int)] = RW.bytesV (s.data.toList.take (k + 1)) := by
        rw [List.take_succ_eq_append_getElem (by simpa using hlt)]; simp [RW.bytesV]; rfl
      have htH := hide ht
      clear ht
      go_wp2_with (at_builtin; refine wpList_append_own _ rfl _ _ 39 rfl B 5 i0 (.int .u8 0) 1 1 Tryz.underlying39 hi hz0 hz1 hz2 rfl (by decide) _ _ _ rfl (hown.alloc _) ⟨wr.heap.size, 0, none⟩ 1 1 [.int .u8 (s[k].toNat : Int)] rfl rfl ?c1 ?c2 ?c3 ?c4 ?c5 ?_)
      case c1 => exact cell_one_new _ _ _
      case c2 => intro u hu; simp at hu; subst hu; rfl
      case c3 => unfold maxLen; omega
      case c4 => omega
      case c5 => simp; omega
      intro v' w3 hown' hgrow _
      rw [htH.out] at hown'
      obtain ⟨hB3, hs3⟩ := below_app hBw hBs hown hgrow
      clear hgrow hown hBw hBs
      go_wp2
      go_roundw
      case rel => exact ⟨k + 1, by omega, by go_num, hown', hB3, hs3⟩
      case measure => simp [intOf]; omega
    · obtain rfl : k = s.size := by omega
      have ht : s.data.toList.take s.size = s.data.toList := List.take_of_length_le (by simp)
      rw [ht] at hown
      clear ht
      have e2 : RW.bytesV s.data.toList ++ [.int .u8 128] = RW.bytesV (RW.padM s.data.toList 0) := by simp [RW.padM, RW.bytesV]
      have e2H := hide e2
      clear e2
      go_wp2_with (at_builtin; refine wpList_append_own _ rfl _ _ 39 rfl B 5 i0 (.int .u8 0) 1 1 Tryz.underlying39 hi hz0 hz1 hz2 rfl (by decide) _ _ _ rfl (hown.alloc _) ⟨wr.heap.size, 0, none⟩ 1 1 [.int .u8 128] rfl rfl ?c1 ?c2 ?c3 ?c4 ?c5 ?_)
      case c1 => exact cell_one_new _ _ _
      case c2 => intro u hu; simp at hu; subst hu; rfl
      case c3 => unfold maxLen; omega
      case c4 => omega
      case c5 => simp; omega
      intro v' w3 hown' hgrow _
      rw [e2H.out] at hown'
      obtain ⟨hB3, hs3⟩ := below_app hBw hBs hown hgrow
      clear hgrow hown hBw hBs e2H
      go_wp2
      go_loopw [3] (fun v wr => ∃ c : Nat, c ≤ RW.padZ s.size ∧ wr.ownsRow B 5 1 v (s.size + 1 + c) (RW.bytesV (RW.padM s.data.toList c)) ∧ Below B w wr ∧ B ≤ wr.heap.size)
        (fun v wr => match v with | .slice _ l _ => s.size + 65 - l | _ => 0)
      case atStart => exact ⟨0, Nat.zero_le _, hown', hB3, hs3⟩
      case round =>
        clear hown' hB3 hs3
        obtain ⟨c, hc, hown, hBw, hBs⟩ := hrel
        obtain ⟨ao, cap, rfl⟩ := owns_form hown
        by_cases hlt : c < RW.padZ s.size
        · have hd : (((s.size : Int) + 1 + c) % 64 != 56) = true := by
            unfold RW.padZ at hlt; simp only [bne_iff_ne, ne_eq]; omega
          have hcb : c < 64 := by unfold RW.padZ at hlt; omega
          have e3 : RW.bytesV (RW.padM s.data.toList c) ++ [.int .u8 0] = RW.bytesV (RW.padM s.data.toList (c + 1)) := by rw [RW.padM_succ]; simp [RW.bytesV]
          have e3H := hide e3
          clear e3
          go_wp2_with (at_builtin; refine wpList_append_own _ rfl _ _ 39 rfl B 5 i0 (.int .u8 0) 1 1 Tryz.underlying39 hi hz0 hz1 hz2 rfl (by decide) _ _ _ rfl (hown.alloc _) ⟨wr.heap.size, 0, none⟩ 1 1 [.int .u8 0] rfl rfl ?c1 ?c2 ?c3 ?c4 ?c5 ?_)
          case c1 => exact cell_one_new _ _ _
          case c2 => intro u hu; simp at hu; subst hu; rfl
          case c3 => unfold maxLen; omega
          case c4 => omega
          case c5 => simp; omega
          intro v' w3 hown' hgrow _
          rw [e3H.out] at hown'
          obtain ⟨hB3, hs3⟩ := below_app hBw hBs hown hgrow
          clear hgrow hown hBw hBs e3H
          obtain ⟨ao', cap', rfl⟩ := owns_form hown'
          go_wp2
          go_roundw
          case rel => exact ⟨c + 1, by omega, by rw [show s.size + 1 + (c + 1) = s.size + 1 + c + 1 by omega]; exact hown', hB3, hs3⟩
          case measure => simp; omega
        · have hcz : c = RW.padZ s.size := by omega
          have hd : (((s.size : Int) + 1 + c) % 64 != 56) = false := by
            rw [hcz]; unfold RW.padZ; simp only [bne_eq_false_iff_eq]; omega
          go_wp2
          subst hcz
          generalize hz : RW.padZ s.size = z at hown hd
          have hzb : z < 64 := by rw [← hz]; unfold RW.padZ; omega
          have hzH := hide hz
          clear hz hd hlt hc
          go_loopw [3, 5] (fun v iv wr => ∃ c : Nat, c ≤ 8 ∧ iv = .int .i64 (7 - (c : Int)) ∧ wr.ownsRow B 5 1 v (s.size + 1 + z + c) (RW.bytesV (RW.padM s.data.toList z ++ RW.padT s.size c)) ∧ Below B w wr ∧ B ≤ wr.heap.size)
            (fun v iv wr => (intOf iv + 1).toNat)
          case atStart => exact ⟨0, Nat.zero_le _, rfl, by simpa [RW.padT] using hown, hBw, hBs⟩
          case round =>
            clear hown hBw hBs
            obtain ⟨c, hc, rfl, hown, hBw, hBs⟩ := hrel
            by_cases hlt : c < 8
            · have hge : (0 : Int) ≤ 7 - (c : Int) := by omega
              have e3 : RW.bytesV (RW.padM s.data.toList z ++ RW.padT s.size c) ++ [.int .u8 (8 * (s.size : Int) / 2 ^ (8 * (7 - c)) % 256)] = RW.bytesV (RW.padM s.data.toList z ++ RW.padT s.size (c + 1)) := by
                rw [show RW.padT s.size (c + 1) = RW.padT s.size c ++ [RW.padB s.size (7 - c)] from rfl, RW.padB_int]; simp [RW.bytesV]
              have e3H := hide e3
              clear e3
              go_wp2_with (at_builtin; refine wpList_append_own _ rfl _ _ 39 rfl B 5 i0 (.int .u8 0) 1 1 Tryz.underlying39 hi hz0 hz1 hz2 rfl (by decide) _ _ _ rfl (hown.alloc _) ⟨wr.heap.size, 0, none⟩ 1 1 [.int .u8 (8 * (s.size : Int) / 2 ^ (8 * (7 - c)) % 256)] rfl rfl ?c1 ?c2 ?c3 ?c4 ?c5 ?_)
              case c1 => exact cell_one_new _ _ _
              case c2 => intro u hu; simp at hu; subst hu; rfl
              case c3 => unfold maxLen; omega
              case c4 => omega
              case c5 => simp; omega
              intro v' w3 hown' hgrow _
              rw [e3H.out] at hown'
              obtain ⟨hB3, hs3⟩ := below_app hBw hBs hown hgrow
              clear hgrow hown hBw hBs e3H
              go_wp2
              go_roundw
              case rel => exact ⟨c + 1, by omega, by go_num, by rw [show s.size + 1 + z + (c + 1) = s.size + 1 + z + c + 1 by omega]; exact hown', hB3, hs3⟩
              case measure => simp [intOf]; omega
            · have hge : ¬ (0 : Int) ≤ 7 - (c : Int) := by omega
              have hc8 : c = 8 := by omega
              have hpl : RW.padM s.data.toList z ++ RW.padT s.size c = RW.padL s.data.toList := by
                rw [hc8, ← hzH.out]; unfold RW.padL; rw [Array.length_toList]; rfl
              have hlen : s.size + 1 + z + c = (RW.padL s.data.toList).length := by rw [← hpl, List.length_append, RW.padM_len, RW.padT_len, Array.length_toList]; rfl
              rw [hpl, hlen] at hown
              clear hpl hlen hc8
              go_wp2
              go_ret
              exact ⟨_, rfl, by rw [← hBH.out]; exact hown, by rw [← hBH.out]; exact hBw⟩
namespace RW
def k0 : List Int := [1116352408, 1899447441, 3049323471, 3921009573, 961987163, 1508970993, 2453635748, 2870763221, 3624381080, 310598401, 607225278, 1426881987, 1925078388, 2162078206, 2614888103, 3248222580, 3835390401, 4022224774, 264347078, 604807628, 770255983, 1249150122, 1555081692, 1996064986, 2554220882, 2821834349, 2952996808, 3210313671, 3336571891, 3584528711, 113926993, 338241895, 666307205, 773529912, 1294757372, 1396182291, 1695183700, 1986661051, 2177026350, 2456956037, 2730485921, 2820302411, 3259730800, 3345764771, 3516065817, 3600352804, 4094571909, 275423344, 430227734, 506948616, 659060556, 883997877, 958139571, 1322822218, 1537002063, 1747873779, 1955562222, 2024104815, 2227730452, 2361852424, 2428436474, 2756734187, 3204031479, 3329325298]
def k0F (i : Nat) : Int := k0.getD i 0
def k0C : Array Value := (k0.map fun z => Value.int .u32 z).toArray
end RW
set_option maxRecDepth 100000 in
set_option maxHeartbeats 1000000 in
theorem constants_any (w : World) : Calls Tryz.prog 105 #[] w fun e w' => e = .returned (.slice (some ⟨w.heap.size, 0, none⟩) 64 64) ∧ w' = w.alloc (.cells RW.k0C 119) := by
  go_enter Tryz.func105, Tryz.ntmps105
  go_wp2
  go_ret
  exact ⟨rfl, rfl⟩
theorem RW.k0_len : RW.k0.length = 64 := by decide +kernel
theorem RW.k0C_ok : RW.WsOk RW.k0C RW.k0F := by
  refine ⟨by simp [k0C, k0_len], fun i hi => ?_⟩
  have h : i < k0.length := by rw [k0_len]; exact hi
  simp [k0C, k0F, List.getD, List.getElem?_eq_getElem h]
end Go.Proofs.YtllbphanfahkkaaGreatDoor

/-
  What the operations of a region do, one by one (words, bytes, indexes, calls): no condition beyond each theorem's own premises.
-/
namespace Go.Proofs.YtllbphanfahkkaaGreatDoor
open Go.RowKit RG
namespace OP
variable {ev : Operand → Value} {o : Oper} {x y z : Operand} {w : World}
theorem sub_i {m n r : Int} (ho : o.op = .binOp .sub 3 x y 3) (hx : ev x = .int .i64 m) (hy : ev y = .int .i64 n) (h : m - n = r) (hb : -9223372036854775808 ≤ r ∧ r ≤ 9223372036854775807) : (execOp ev o).run Tryz.prog w = .ok (.value (.int .i64 r)) w := by
  have e : IntKind.i64.wrap (m - n) = r := by rw [h]; exact IntWalk.i64_in _ hb
  unfold execOp
  rw [ho]
  clear hb h
  go_simp
theorem add_i {m n r : Int} (ho : o.op = .binOp .add 3 x y 3) (hx : ev x = .int .i64 m) (hy : ev y = .int .i64 n) (h : m + n = r) (hb : -9223372036854775808 ≤ r ∧ r ≤ 9223372036854775807) : (execOp ev o).run Tryz.prog w = .ok (.value (.int .i64 r)) w := by
  have e : IntKind.i64.wrap (m + n) = r := by rw [h]; exact IntWalk.i64_in _ hb
  unfold execOp
  rw [ho]
  clear hb h
  go_simp
theorem mul_i {m n r : Int} (ho : o.op = .binOp .mul 3 x y 3) (hx : ev x = .int .i64 m) (hy : ev y = .int .i64 n) (h : m * n = r) (hb : -9223372036854775808 ≤ r ∧ r ≤ 9223372036854775807) : (execOp ev o).run Tryz.prog w = .ok (.value (.int .i64 r)) w := by
  have e : IntKind.i64.wrap (m * n) = r := by rw [h]; exact IntWalk.i64_in _ hb
  unfold execOp
  rw [ho]
  clear hb h
  go_simp
theorem add_u {m n : Int} (ho : o.op = .binOp .add 119 x y 119) (hx : ev x = .int .u32 m) (hy : ev y = .int .u32 n) : (execOp ev o).run Tryz.prog w = .ok (.value (.int .u32 ((m + n) % 4294967296))) w := by
  have e : IntKind.u32.wrap (m + n) = (m + n) % 4294967296 := IntKind.wrap_u32 _
  unfold execOp
  rw [ho]
  go_simp
theorem xor_u {m n : Int} (ho : o.op = .binOp .xor 119 x y 119) (hx : ev x = .int .u32 m) (hy : ev y = .int .u32 n) : (execOp ev o).run Tryz.prog w = .ok (.value (.int .u32 (bits .xor .u32 m n))) w := by
  unfold execOp
  rw [ho]
  go_simp
theorem and_u {m n : Int} (ho : o.op = .binOp .and 119 x y 119) (hx : ev x = .int .u32 m) (hy : ev y = .int .u32 n) : (execOp ev o).run Tryz.prog w = .ok (.value (.int .u32 (bits .and .u32 m n))) w := by
  unfold execOp
  rw [ho]
  go_simp
theorem or_u {m n : Int} (ho : o.op = .binOp .or 119 x y 119) (hx : ev x = .int .u32 m) (hy : ev y = .int .u32 n) : (execOp ev o).run Tryz.prog w = .ok (.value (.int .u32 (bits .or .u32 m n))) w := by
  unfold execOp
  rw [ho]
  go_simp
theorem not_u {m : Int} (ho : o.op = .unOp .xor 119 x) (hx : ev x = .int .u32 m) : (execOp ev o).run Tryz.prog w = .ok (.value (.int .u32 (bits .xor .u32 IntKind.u32.max m))) w := by
  unfold execOp
  rw [ho]
  go_simp
  rw [if_neg (by decide)]
theorem shr_u {m : Int} {n : Nat} (ho : o.op = .binOp .shr 119 x (.const (.int .u64 n)) 123) (hev : ev (.const (.int .u64 n)) = .int .u64 n) (hx : ev x = .int .u32 m) (hn : n < 32) : (execOp ev o).run Tryz.prog w = .ok (.value (.int .u32 (m / 2 ^ n))) w := by
  unfold execOp
  rw [ho]
  go_simp
theorem shl_u {m : Int} {n : Nat} (ho : o.op = .binOp .shl 119 x (.const (.int .u64 n)) 123) (hev : ev (.const (.int .u64 n)) = .int .u64 n) (hx : ev x = .int .u32 m) (hn : n < 32) : (execOp ev o).run Tryz.prog w = .ok (.value (.int .u32 (m * 2 ^ n % 4294967296))) w := by
  have e : IntKind.u32.wrap (m * 2 ^ n) = m * 2 ^ n % 4294967296 := IntKind.wrap_u32 _
  unfold execOp
  rw [ho]
  go_simp
theorem conv_up {m : Int} (ho : o.op = .convert 5 119 x) (hx : ev x = .int .u8 m) (hb : 0 ≤ m ∧ m ≤ 255) : (execOp ev o).run Tryz.prog w = .ok (.value (.int .u32 m)) w := by
  have e : IntKind.u32.wrap m = m := by rw [IntKind.wrap_u32]; omega
  unfold execOp
  rw [ho]
  go_simp
theorem conv_down {m : Int} (ho : o.op = .convert 119 5 x) (hx : ev x = .int .u32 m) : (execOp ev o).run Tryz.prog w = .ok (.value (.int .u8 (m % 256))) w := by
  have e : IntKind.u8.wrap m = m % 256 := IntKind.wrap_u8 _
  unfold execOp
  rw [ho]
  go_simp
theorem idx_w {g i n c : Nat} (ho : o.op = .indexAddr 120 x y) (hx : ev x = .slice (some ⟨g, 0, none⟩) n c) (hy : ev y = .int .i64 i) (hi : i < n) : (execOp ev o).run Tryz.prog w = .ok (.value (.pointer (some ⟨g, i, none⟩))) w := by
  unfold execOp
  rw [ho]
  go_simp
theorem idx_b {g ao i n c : Nat} (ho : o.op = .indexAddr 39 x y) (hx : ev x = .slice (some ⟨g, ao, none⟩) n c) (hy : ev y = .int .i64 i) (hi : i < n) : (execOp ev o).run Tryz.prog w = .ok (.value (.pointer (some ⟨g, ao + i, none⟩))) w := by
  unfold execOp
  rw [ho]
  go_simp
theorem load_u {a : Addr} {n : Int} (ho : o.op = .load 119 x) (hx : ev x = .pointer (some a)) (hc : w.cell? a = some (.int .u32 n)) : (execOp ev o).run Tryz.prog w = .ok (.value (.int .u32 n)) w := by
  unfold execOp
  rw [ho]
  go_simp
theorem load_b {a : Addr} {n : Int} (ho : o.op = .load 5 x) (hx : ev x = .pointer (some a)) (hc : w.cell? a = some (.int .u8 n)) : (execOp ev o).run Tryz.prog w = .ok (.value (.int .u8 n)) w := by
  unfold execOp
  rw [ho]
  go_simp
theorem cf_rot : ∀ args w, (callFunc 104 args).run Tryz.prog w = .ok (.enter 104 args) w := fun args w => by go_simp
theorem call2 {k : Nat} {ts : Array TypeId} {n l : Value} (ho : o.op = .call ⟨.value (.func k), #[x, y], ts⟩) (hf : ev (.func k) = .func (.func k) #[] #[]) (hx : ev x = n) (hy : ev y = l) (hk : ∀ args w, (callFunc k args).run Tryz.prog w = .ok (.enter k args) w) : (execOp ev o).run Tryz.prog w = .ok (.enter k #[n, l]) w := by
  unfold execOp
  rw [ho]
  go_simp
theorem build_w {v : Int} (ho : o.op = .buildSlice 120 1 #[(0, x)]) (hx : ev x = .int .u32 v) : (execOp ev o).run Tryz.prog w = .ok (.value (.slice (some ⟨w.heap.size, 0, none⟩) 1 1)) (w.alloc (.cells #[.int .u32 v] 119)) := by
  unfold execOp
  rw [ho]
  go_simp
theorem build_b4 {x1 x2 x3 : Operand} {a b c d : Int} (ho : o.op = .buildSlice 39 4 #[(0, x), (1, x1), (2, x2), (3, x3)]) (hx : ev x = .int .u8 a) (hx1 : ev x1 = .int .u8 b) (hx2 : ev x2 = .int .u8 c) (hx3 : ev x3 = .int .u8 d) :
    (execOp ev o).run Tryz.prog w = .ok (.value (.slice (some ⟨w.heap.size, 0, none⟩) 4 4)) (w.alloc (.cells #[.int .u8 a, .int .u8 b, .int .u8 c, .int .u8 d] 5)) := by
  unfold execOp
  rw [ho]
  go_simp
theorem build_w8 {x1 x2 x3 x4 x5 x6 x7 : Operand} {a b c d e f g h : Int} (ho : o.op = .buildSlice 120 8 #[(0, x), (1, x1), (2, x2), (3, x3), (4, x4), (5, x5), (6, x6), (7, x7)]) (hx : ev x = .int .u32 a) (hx1 : ev x1 = .int .u32 b) (hx2 : ev x2 = .int .u32 c) (hx3 : ev x3 = .int .u32 d)
    (hx4 : ev x4 = .int .u32 e) (hx5 : ev x5 = .int .u32 f) (hx6 : ev x6 = .int .u32 g) (hx7 : ev x7 = .int .u32 h) :
    (execOp ev o).run Tryz.prog w = .ok (.value (.slice (some ⟨w.heap.size, 0, none⟩) 8 8)) (w.alloc (.cells #[.int .u32 a, .int .u32 b, .int .u32 c, .int .u32 d, .int .u32 e, .int .u32 f, .int .u32 g, .int .u32 h] 119)) := by
  unfold execOp
  rw [ho]
  go_simp
theorem app {t : TypeId} {v s v' : Value} {w' : World} (ho : o.op = .call { callee := .builtin .append, args := #[x, y], argTypes := #[t, t] }) (hx : ev x = v) (hy : ev y = s) (hr : (Builtin.append_ #[t, t] o.type #[v, s]).run Tryz.prog w = .ok v' w') :
    (execOp ev o).run Tryz.prog w = .ok (.value v') w' := by
  unfold execOp
  simp only [ho, resolve, invoke, builtin, Sem.run_bind, Sem.run_pure, Result.andThen_ok, List.map_toArray, List.map_cons, List.map_nil, hx, hy, hr]
end OP
end Go.Proofs.YtllbphanfahkkaaGreatDoor

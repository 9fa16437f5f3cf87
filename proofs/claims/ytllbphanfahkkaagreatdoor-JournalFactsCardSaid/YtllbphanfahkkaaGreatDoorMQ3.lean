/-
  Package fact: Encode and ID: what they return; only new memory is written.
-/
import Derived.Test.YtllbphanfahkkaaGreatDoorMQ2
import Derived.Test.YtllbphanfahkkaaGreatDoorMQ0
import Derived.Test.YtllbphanfahkkaaGreatDoorMA
import Derived.Test.YtllbphanfahkkaaGreatDoorMB
import Derived.Test.YtllbphanfahkkaaGreatDoorMS
import Derived.Recover
import Derived.WalkLawsBesides
import Derived.Test.YtllbphanfahkkaaGreatDoorMY3
import Derived.Ground.SlgmProg
import Derived.Ground.GgzProg
import Derived.Shelf.SortM.Plain
import Derived.Shelf.SortM.SortNone
import Derived.Shelf.SlIterI.Nil
import Derived.Test.YtllbphanfahkkaaGreatDoorProg
import Derived.Ground.SlgnProg
import Derived.Ground.SlgfProg
import Derived.Shelf.SlicesG.CompactI
import Derived.Shelf.SlicesE.DeleteFunc
namespace Go.Proofs.YtllbphanfahkkaaGreatDoor
open Go.RowKit
namespace RW
def encTo (f : Nat → Int) (j : Nat) : List UInt8 := (List.range j).flatMap fun i => putI (f i)
def encL (f : Nat → Int) (s : List UInt8) : List UInt8 := encTo f 17 ++ putS s
theorem encTo_succ (f : Nat → Int) (j : Nat) : encTo f (j + 1) = encTo f j ++ putI (f j) := by
  unfold encTo; rw [List.range_succ, List.flatMap_append]; simp
theorem encTo_len (f : Nat → Int) (j : Nat) : (encTo f j).length ≤ 10 * j := by
  induction j with
  | zero => simp [encTo]
  | succ j ih => rw [encTo_succ, List.length_append]; have := putI_len (f j); omega
theorem ptrs_get (r i : Nat) (h : i < 17) : (ptrs r)[i]? = some (.pointer (some ⟨r, i, none⟩)) := by
  have h' : i = 0 ∨ i = 1 ∨ i = 2 ∨ i = 3 ∨ i = 4 ∨ i = 5 ∨ i = 6 ∨ i = 7 ∨ i = 8 ∨ i = 9 ∨ i = 10 ∨ i = 11 ∨ i = 12 ∨ i = 13 ∨ i = 14 ∨ i = 15 ∨ i = 16 := by omega
  rcases h' with rfl | rfl | rfl | rfl | rfl | rfl | rfl | rfl | rfl | rfl | rfl | rfl | rfl | rfl | rfl | rfl | rfl <;> rfl
theorem below_grown {w w' : World} (h : Below w.heap.size w w') : w.grownBy w' none := ⟨h.os, h.tape, h.output, h.size, fun k hk _ => h.block k hk⟩
theorem bld_kept {T el : TypeId} {B b : Nat} {p : Value} {bs : List Value} {w w' : World} (h : Lib.BuilderAt T el B b p bs w) (hB : Below w.heap.size w w') : Lib.BuilderAt T el B b p bs w' := by
  obtain ⟨hb, v, hv, ho, hne⟩ := h
  exact ⟨hb, v, (hB.block _ (Array.getElem?_eq_some_iff.1 hv).1).trans hv, ho.kept (below_grown hB) (by cases e : v.ownBlock <;> simp), hne⟩
theorem isbld_kept {T e : TypeId} {B b : Nat} {bs : List Value} {w w' : World} (h : Lib.IsBuilder T e B b bs w) (hB : Below w.heap.size w w') : Lib.IsBuilder T e B b bs w' := by
  rcases h with h | h
  · exact .inl (bld_kept h hB)
  · exact .inr (bld_kept h hB)
theorem bld_new {T e : TypeId} (w : World) : Lib.IsBuilder T e w.heap.size w.heap.size [] (w.alloc (.cells #[.pointer none, .slice none 0 0] T)) :=
  .inl ⟨Nat.le_refl _, _, heap_alloc_new w _, World.ownsRow_nil _ _ _ _, by simp [Value.ownBlock]⟩
end RW
set_option maxRecDepth 100000 in
set_option maxHeartbeats 2000000 in
theorem encode_yes (f : Nat → Int) (s : ByteArray) (w : World) (hv : RW.validB f s.size = true) (hs : s.size ≤ 65536) (hbd : ∀ i, i < 17 → -4611686018427387903 ≤ f i ∧ f i ≤ 4611686018427387903) :
    Calls Tryz.prog 35 #[.agg (RW.fcells f s)] w fun e w' => e = .returned (.tuple #[.string ⟨(RW.encL f s.data.toList).toArray⟩, .int .i64 0]) ∧ Below w.heap.size w w' := by
  have hV : ∀ W : World, Calls Tryz.prog 34 #[.agg (RW.fcells f s)] W fun e w' => e = .returned (.bool true) ∧ Below W.heap.size W w' := fun W => hv ▸ valid_any f s W
  have hfold := fcells_fold f s
  obtain ⟨cs, hcs⟩ : ∃ cs, cs = RW.fcells f s := ⟨_, rfl⟩
  rw [← hcs] at hV hfold ⊢
  obtain ⟨w1, hw1⟩ : ∃ w1, w1 = w.alloc (.cells cs 70) := ⟨_, rfl⟩
  have hH1 : w1.heap[w.heap.size]? = some (.cells cs 70 (0, 0)) := hw1 ▸ heap_alloc_new w _
  have hB1 : Below w.heap.size w w1 := hw1 ▸ (Below.refl _ _).alloc (Nat.le_refl _) _
  have hlt : w.heap.size < w1.heap.size := (Array.getElem?_eq_some_iff.1 hH1).1
  have hi1 : (Tryz.prog.info? 70).map (·.size) = some cs.size := by rw [hcs]; kernel_rfl
  have hsz : cs.size = 18 := by rw [hcs]; rfl
  have hcs' := hide hcs
  have hw1' := hide hw1
  have hVH := hide hV
  clear hcs hw1 hV
  go_enter Tryz.func35, Tryz.ntmps35
  go_upto_region 1 with fail
  rw [← hw1'.out]
  go_wp2_with (first | (refine wpList_load_row rfl 70 (.tmp 1) rfl w.heap.size rfl 70 cs (0, 0) _ hH1 Tryz.underlying70 rfl hi1 ?_))
  refine (hVH.out _).mono ?_
  rintro e w2 ⟨rfl, hB2⟩
  have hH2 := (hB2.block _ hlt).trans hH1
  have hl2 : w.heap.size < w2.heap.size := by have := hB2.size; omega
  have hH3 : ∀ o, (w2.alloc o).heap[w.heap.size]? = some (.cells cs 70 (0, 0)) := fun o => (Below.heap_alloc _ _ _ hl2).trans hH2
  have hBB2 : Below w.heap.size w w2 := hB1.trans (hB2.mono (by omega))
  have hbl := RW.bld_new (T := 89) (e := 5) w2
  have hbH := hide hbl
  clear hB2 hbl hH1 hB1
  go_wp2_with (refine wpList_load_row rfl 70 (.tmp 1) rfl w.heap.size rfl 70 cs (0, 0) _ (hH3 _) Tryz.underlying70 rfl hi1 ?_)
  refine (numbers_any _ _).mono ?_
  rintro e w4 ⟨rfl, hB4⟩
  have hb4 : Lib.IsBuilder 89 5 w2.heap.size w2.heap.size [] w4 := by
    refine RW.isbld_kept (RW.isbld_kept hbH.out ?_) hB4
    exact (Below.refl _ _).alloc (Nat.le_refl _) _
  have hr4 : w4.heap[w2.heap.size + 1]? = some (.cells cs 142 (0, 0)) := (hB4.block _ (by simp)).trans (heap_new_at (by simp))
  have hH4 : w4.heap[w.heap.size]? = some (.cells cs 70 (0, 0)) := (hB4.block _ (by simp; omega)).trans ((Below.heap_alloc _ _ _ (by simp; omega)).trans (hH3 _))
  have hBB4 : Below w.heap.size w w4 := hBB2.trans ((((Below.refl _ _).alloc (by omega) _).alloc (by simp; omega) _).trans (hB4.mono (by simp; omega)))
  have hs4 : w2.heap.size + 2 ≤ w4.heap.size := by have := hB4.size; simpa using this
  have hr5 : (Tryz.prog.info? 144).map (·.size) = some 1 := by kernel_rfl
  clear hbH hB4 hH3 hBB2 hH2 hfold
  obtain ⟨b, hb⟩ : ∃ b, b = w2.heap.size := ⟨_, rfl⟩
  have hix : ∀ j : Nat, j < 17 → ∀ W', (Instr.index 147 (.agg (RW.ptrs (w2.heap.size + 1))) (.int .i64 (j : Int))).run Tryz.prog W' = .ok (.pointer (some ⟨w2.heap.size + 1, j, none⟩)) W' := fun j hj W' => by
    have h1 := RW.ptrs_get (w2.heap.size + 1) j hj
    cases hq : Tryz.prog.info? 144 with
    | none => simp [hq] at hr5
    | some inf =>
      have h2 : inf.size = 1 := by simpa [hq] using hr5
      simp [Instr.index, asIntOf, run_underlying Tryz.underlying147, hj, part, isAgg, run_underlying Tryz.underlying144, sizeOf, typeInfo, hq, h2, h1]
  rw [← hb] at hb4 hr4 hs4 hl2 hix ⊢
  have hixH := hide hix
  clear hix hb hr5
  go_wp2
  go_loopw [20] (fun i wr => ∃ j : Nat, j ≤ 17 ∧ i = .int .i64 j ∧ Lib.IsBuilder 89 5 b b (Lib.byteCells (RW.encTo f j)) wr ∧ wr.heap[b + 1]? = some (.cells cs 142 (0, 0)) ∧ wr.heap[w.heap.size]? = some (.cells cs 70 (0, 0)) ∧ Below w.heap.size w wr ∧ b + 2 ≤ wr.heap.size) (fun i _ => 17 - (intOf i).toNat)
  case atStart => exact ⟨0, by omega, rfl, hb4, hr4, hH4, hBB4, hs4⟩
  case round =>
    clear hb4 hr4 hH4 hBB4 hs4
    obtain ⟨j, hj, rfl, hbw, hrw, hfw, hBw, hsw⟩ := hrel
    by_cases hlt : j < 17
    · have cj : wr.cell? ⟨b + 1, j, none⟩ = some (.int .i64 (f j)) := by rw [cell_of_heap hrw, hcs'.out, fcells_get _ _ _ hlt]
      have hix := hixH.out j hlt
      have hn1 := hbd j hlt
      have hlen : (Lib.byteCells (RW.encTo f j)).length + (⟨(RW.putI (f j)).toArray⟩ : ByteArray).size ≤ 140737488355328 := by
        have h1 := RW.encTo_len f j
        have h2 := RW.putI_len (f j)
        have h3 : (⟨(RW.putI (f j)).toArray⟩ : ByteArray).size = (RW.putI (f j)).length := by show (RW.putI (f j)).toArray.size = _; simp
        rw [Lib.byteCells_length]; omega
      have hbwH := hide hbw
      clear hbw
      go_wp2_with (first | (go_at_call 76; refine (putint _ hn1.1 hn1.2 _).mono ?_; rintro e w5 ⟨rfl, hB5⟩; have hb5 := hide (RW.isbld_kept hbwH.out hB5)) | (go_at_call 42; refine (writestring b b _ _ _ hb5.out hlen (by have := hB5.size; omega)).mono ?_; rintro e w6 ⟨rfl, hb6, hB6, hk6⟩))
      go_roundw
      case rel =>
        have h5 := (hB5.block _ (by omega)).trans hrw
        refine ⟨j + 1, by omega, by go_num, ?_, (hk6 _ _ _ _ h5 (by decide) (by omega)).trans h5, (hB6.block _ hl2).trans ((hB5.block _ (by omega)).trans hfw), hBw.trans ((hB5.mono (by omega)).trans (hB6.mono (by omega))), by have := hB6.size; have := hB5.size; omega⟩
        rw [RW.encTo_succ]
        have e : Lib.byteCells (RW.encTo f j ++ RW.putI (f j)) = Lib.byteCells (RW.encTo f j) ++ Lib.strCells ⟨(RW.putI (f j)).toArray⟩ := by simp [Lib.byteCells, Lib.strCells]
        rw [e]; exact .inr hb6
      case measure => simp [intOf]; omega
    · obtain rfl : j = 17 := by omega
      have c17 : wr.cell? ⟨w.heap.size, 17, none⟩ = some (.string s) := by rw [cell_of_heap hfw, hcs'.out, fcells_text]
      have hlen : (Lib.byteCells (RW.encTo f 17)).length + (⟨(RW.putS s.data.toList).toArray⟩ : ByteArray).size ≤ 140737488355328 := by
        have h1 := RW.encTo_len f 17
        have h2 := RW.putI_len s.size
        have h3 : (⟨(RW.putS s.data.toList).toArray⟩ : ByteArray).size = (RW.putS s.data.toList).length := by show (RW.putS s.data.toList).toArray.size = _; simp
        have h4 : (RW.putS s.data.toList).length = (RW.putI s.size).length + s.size := by rw [RW.putS_eq, List.length_append, Array.length_toList]; rfl
        rw [Lib.byteCells_length]; omega
      have hbwH := hide hbw
      clear hbw hrw hfw
      go_wp2_with (first | (go_at_call 77; refine (putstr s hs _).mono ?_; rintro e w5 ⟨rfl, hB5⟩; have hb5 := hide (RW.isbld_kept hbwH.out hB5)) | (go_at_call 42; refine (writestring b b _ _ _ hb5.out hlen (by have := hB5.size; omega)).mono ?_; rintro e w6 ⟨rfl, hb6, hB6, hk6⟩))
      have e : Lib.byteCells (RW.encTo f 17) ++ Lib.strCells ⟨(RW.putS s.data.toList).toArray⟩ = Lib.byteCells (RW.encL f s.data.toList) := by simp [Lib.byteCells, Lib.strCells, RW.encL]
      rw [e] at hb6
      refine (SH.Builder_String_any b b _ _ (.inr hb6) (by have := hB6.size; have := hB5.size; omega)).mono ?_
      rintro e w8 ⟨rfl, hB8⟩
      go_wp2
      go_ret2
      exact ⟨rfl, hBw.trans ((hB5.mono (by omega)).trans ((hB6.mono (by omega)).trans (hB8.mono (by omega))))⟩
set_option maxRecDepth 100000 in
set_option maxHeartbeats 2000000 in
theorem encode_no (f : Nat → Int) (s : ByteArray) (w : World) (hv : RW.validB f s.size = false) :
    Calls Tryz.prog 35 #[.agg (RW.fcells f s)] w fun e w' => e = .returned (.tuple #[.string ⟨#[]⟩, .int .i64 50]) ∧ Below w.heap.size w w' := by
  have hV : ∀ W : World, Calls Tryz.prog 34 #[.agg (RW.fcells f s)] W fun e w' => e = .returned (.bool false) ∧ Below W.heap.size W w' := fun W => hv ▸ valid_any f s W
  obtain ⟨cs, hcs⟩ : ∃ cs, cs = RW.fcells f s := ⟨_, rfl⟩
  rw [← hcs] at hV ⊢
  obtain ⟨w1, hw1⟩ : ∃ w1, w1 = w.alloc (.cells cs 70) := ⟨_, rfl⟩
  have hH1 : w1.heap[w.heap.size]? = some (.cells cs 70 (0, 0)) := hw1 ▸ heap_alloc_new w _
  have hB1 : Below w.heap.size w w1 := hw1 ▸ (Below.refl _ _).alloc (Nat.le_refl _) _
  have hlt : w.heap.size < w1.heap.size := (Array.getElem?_eq_some_iff.1 hH1).1
  have hi1 : (Tryz.prog.info? 70).map (·.size) = some cs.size := by rw [hcs]; kernel_rfl
  have hsz : cs.size = 18 := by rw [hcs]; rfl
  have hw1' := hide hw1
  have hVH := hide hV
  clear hcs hw1 hV
  go_enter Tryz.func35, Tryz.ntmps35
  go_upto_region 1 with fail
  rw [← hw1'.out]
  go_wp2_with (first | (refine wpList_load_row rfl 70 (.tmp 1) rfl w.heap.size rfl 70 cs (0, 0) _ hH1 Tryz.underlying70 rfl hi1 ?_))
  refine (hVH.out _).mono ?_
  rintro e w2 ⟨rfl, hB2⟩
  go_wp2
  go_ret2
  exact ⟨rfl, hB1.trans (hB2.mono (by omega))⟩
namespace RW
theorem valid_lims (f : Nat → Int) (n : Nat) (hv : validB f n = true) : n ≤ 2000 ∧ (1 ≤ f 0 ∧ f 0 ≤ 10) ∧ (1 ≤ f 2 ∧ f 2 ≤ 1000) ∧ ∀ i, i < 17 → -4611686018427387903 ≤ f i ∧ f i ≤ 4611686018427387903 := by
  obtain ⟨h0, h2, hn, hk⟩ := (dec_iff _).1 hv
  obtain ⟨h3, _, h5⟩ := (dec_iff _).1 hk
  refine ⟨hn, h0, h2, fun i hi => ?_⟩
  by_cases i0 : i = 0
  · subst i0; omega
  by_cases i2 : i = 2
  · subst i2; omega
  by_cases hx : ∀ x ∈ kf (f 0).toNat (f 12), x.1 ≠ i
  · have := h5 i hi i0 i2 hx; omega
  · have hx' : ∃ x ∈ kf (f 0).toNat (f 12), x.1 = i := Classical.byContradiction fun h => hx fun x hm he => h ⟨x, hm, he⟩
    obtain ⟨x, hxm, hxi⟩ := hx'
    obtain ⟨k, hk⟩ : ∃ k : Nat, (f 0).toNat = k + 1 := ⟨(f 0).toNat - 1, by omega⟩
    have hk10 : k < 10 := by omega
    rw [hk] at hxm h3
    have hb := h3 x hxm
    subst hxi
    have h12 : k = 2 → 1 ≤ f 12 ∧ f 12 ≤ 1200 := by
      intro e; subst e
      exact h3 (12, 1, 1200) (by simp [kf])
    have : (∀ y ∈ kf (k + 1) (f 12), (0 ≤ y.2.1 ∧ y.2.2 ≤ 100000000000)) := by
      match k, hk10 with
      | 2, _ =>
        have h := h12 rfl
        have e : IntKind.i64.wrap (f 12 - 1) = f 12 - 1 := IntWalk.i64_in _ (by omega)
        simp [kf, e]; omega
      | 0, _ => simp [kf]
      | 1, _ => simp [kf]
      | 3, _ => simp [kf]
      | 4, _ => simp [kf]
      | 5, _ => simp [kf]
      | 6, _ => simp [kf]
      | 7, _ => simp [kf]
      | 8, _ => simp [kf]
      | 9, _ => simp [kf]
    have := this x hxm
    omega
/-- what Encode gives -/
noncomputable def encR (f : Nat → Int) (s : ByteArray) : Value := match validB f s.size with
  | true => .tuple #[.string ⟨(encL f s.data.toList).toArray⟩, .int .i64 0]
  | false => .tuple #[.string ⟨#[]⟩, .int .i64 50]
theorem encR_yes (f : Nat → Int) (s : ByteArray) (h : validB f s.size = true) : encR f s = .tuple #[.string ⟨(encL f s.data.toList).toArray⟩, .int .i64 0] := by unfold encR; rw [h]
theorem encR_no (f : Nat → Int) (s : ByteArray) (h : validB f s.size = false) : encR f s = .tuple #[.string ⟨#[]⟩, .int .i64 50] := by unfold encR; rw [h]
end RW
theorem encode_any (f : Nat → Int) (s : ByteArray) (w : World) :
    Calls Tryz.prog 35 #[.agg (RW.fcells f s)] w fun e w' => e = .returned (RW.encR f s) ∧ Below w.heap.size w w' := by
  cases hv : RW.validB f s.size
  · rw [RW.encR_no _ _ hv]; exact encode_no f s w hv
  · rw [RW.encR_yes _ _ hv]
    obtain ⟨h1, _, _, h2⟩ := RW.valid_lims f s.size hv
    exact encode_yes f s w hv (by omega) h2
end Go.Proofs.YtllbphanfahkkaaGreatDoor

/-
  Package fact: ID and Prevails: what they return; only new memory is written.
-/
namespace Go.Proofs.YtllbphanfahkkaaGreatDoor
open Go.RowKit
namespace RW
/-- what ID gives -/
noncomputable def idR (K : Nat → Int) (f : Nat → Int) (s : ByteArray) : Value := match validB f s.size with
  | true => .tuple #[.string ⟨(sha K (encL f s.data.toList)).toArray⟩, .int .i64 0]
  | false => .tuple #[.string ⟨#[]⟩, .int .i64 50]
theorem idR_yes (K : Nat → Int) (f : Nat → Int) (s : ByteArray) (h : validB f s.size = true) : idR K f s = .tuple #[.string ⟨(sha K (encL f s.data.toList)).toArray⟩, .int .i64 0] := by unfold idR; rw [h]
theorem idR_no (K : Nat → Int) (f : Nat → Int) (s : ByteArray) (h : validB f s.size = false) : idR K f s = .tuple #[.string ⟨#[]⟩, .int .i64 50] := by unfold idR; rw [h]
theorem encL_len (f : Nat → Int) (s : List UInt8) : (encL f s).length ≤ 180 + s.length := by
  unfold encL
  have h1 := encTo_len f 17
  have h2 := putI_len s.length
  have h3 : (putS s).length = (putI s.length).length + s.length := by unfold putS; simp
  rw [List.length_append]; omega
theorem klaid {w w' : World} {ks : Array Value} (h : KLaid w ks) (hB : Below w.heap.size w w') : KLaid w' ks := by
  obtain ⟨t, fr, h⟩ := h
  exact ⟨t, fr, (hB.block _ (Array.getElem?_eq_some_iff.1 h).1).trans h⟩
end RW
theorem sum_any (s : ByteArray) (hs : s.size ≤ 1099511627776) (K : Nat → Int) (ks : Array Value) (hks : RW.WsOk ks K) (w : World) (hK : KLaid w ks) :
    Calls Tryz.prog 149 #[.string s] w fun e w' => e = .returned (.string ⟨(RW.sha K s.data.toList).toArray⟩) ∧ Below w.heap.size w w' :=
  callsIn_wide.1 (sum_in Fence.wide (show Fence.wide = Fence.wide from rfl) 3 trivial trivial rfl (by omega) s hs K ks hks w hK)
set_option maxRecDepth 100000 in
set_option maxHeartbeats 2000000 in
theorem id_fact (f : Nat → Int) (s : ByteArray) (K : Nat → Int) (ks : Array Value) (hks : RW.WsOk ks K) (w : World) (hK : KLaid w ks) :
    Calls Tryz.prog 131 #[.agg (RW.fcells f s)] w fun e w' => e = .returned (RW.idR K f s) ∧ Below w.heap.size w w' := by
  have hV := fun W => encode_any f s W
  have hi1 : (Tryz.prog.info? 70).map (·.size) = some (RW.fcells f s).size := by kernel_rfl
  obtain ⟨cs, hcs⟩ : ∃ cs, cs = RW.fcells f s := ⟨_, rfl⟩
  rw [← hcs] at hV hi1 ⊢
  obtain ⟨w1, hw1⟩ : ∃ w1, w1 = w.alloc (.cells cs 70) := ⟨_, rfl⟩
  have hH1 : w1.heap[w.heap.size]? = some (.cells cs 70 (0, 0)) := hw1 ▸ heap_alloc_new w _
  have hB1 : Below w.heap.size w w1 := hw1 ▸ (Below.refl _ _).alloc (Nat.le_refl _) _
  have hlt : w.heap.size < w1.heap.size := (Array.getElem?_eq_some_iff.1 hH1).1
  have hw1' := hide hw1
  have hVH := hide hV
  clear hcs hw1 hV
  have hK1 := RW.klaid hK hB1
  cases hv : RW.validB f s.size
  · rw [RW.idR_no _ _ _ hv]
    have e1 := hide (RW.encR_no f s hv)
    go_enter Tryz.func131, Tryz.ntmps131
    go_upto_region 1 with fail
    rw [← hw1'.out]
    go_wp2_with (first | (refine wpList_load_row rfl 70 (.tmp 1) rfl w.heap.size rfl 70 cs (0, 0) _ hH1 Tryz.underlying70 rfl hi1 ?_))
    refine (hVH.out _).mono ?_
    rintro e w2 ⟨rfl, hB2⟩
    rw [e1.out]
    go_wp2
    go_ret2
    exact ⟨rfl, hB1.trans (hB2.mono (by omega))⟩
  · rw [RW.idR_yes _ _ _ hv]
    have e1 := hide (RW.encR_yes f s hv)
    obtain ⟨hn, _⟩ := RW.valid_lims f s.size hv
    have hl := RW.encL_len f s.data.toList
    have hsz : (⟨(RW.encL f s.data.toList).toArray⟩ : ByteArray).size ≤ 1099511627776 := by
      show (RW.encL f s.data.toList).toArray.size ≤ _
      simp only [List.size_toArray]
      have h9 : s.data.toList.length = s.size := by rw [Array.length_toList]; rfl
      omega
    go_enter Tryz.func131, Tryz.ntmps131
    go_upto_region 1 with fail
    rw [← hw1'.out]
    go_wp2_with (first | (refine wpList_load_row rfl 70 (.tmp 1) rfl w.heap.size rfl 70 cs (0, 0) _ hH1 Tryz.underlying70 rfl hi1 ?_))
    refine (hVH.out _).mono ?_
    rintro e w2 ⟨rfl, hB2⟩
    rw [e1.out]
    have hK2 := RW.klaid hK1 hB2
    go_wp2_with fail
    refine (sum_any _ hsz K ks hks _ hK2).mono ?_
    rintro e w3 ⟨rfl, hB3⟩
    go_wp2
    go_ret2
    exact ⟨rfl, hB1.trans ((hB2.mono (by omega)).trans (hB3.mono (by have := hB2.size; omega)))⟩
namespace RW
/-- whether a fact prevails over another one -/
noncomputable def prevB (f g : Nat → Int) (s u : ByteArray) : Bool :=
  dec (validB f s.size = true ∧ validB g u.size = true ∧ (f 0 = g 0 ∧ (keyV f).1 = (keyV g).1 ∧ (keyV f).2 = (keyV g).2) ∧
    (g 2 < f 2 ∨ f 2 = g 2 ∧ 0 < Lib.compareBytes (encL f s.data.toList) (encL g u.data.toList)))
end RW
theorem ldRow_fact (x : Value) : Instr.loadAt 70 x = ldRow 70 x := rfl
theorem ldRow_eq {P : Program} (w : World) (g : Nat) (t ty : TypeId) (cs : Array Value) (fr : Nat × Nat) (d : TypeDesc) (hg : w.heap[g]? = some (.cells cs t fr))
    (hu : P.underlying ty = some d) (hd : (match d with | .struct _ | .array _ _ => true | _ => false) = true) (hi : (P.info? ty).map (·.size) = some cs.size) :
    (ldRow ty (.pointer (some ⟨g, 0, none⟩))).run P w = .ok (.agg cs) w := rowLoad_eq w g t ty cs fr d hg hu hd hi
attribute [local go_sem ↓] ldRow_fact
end Go.Proofs.YtllbphanfahkkaaGreatDoor

/-
  Package fact: check, and the closure that Decode defers, in a frame that returns and in one that panics: what they do; only the two named results are written.
-/
namespace Go.Proofs.YtllbphanfahkkaaGreatDoor
open Go.RowKit Go.Stop
namespace RW
def zeroF : Nat → Int := fun _ => 0
def eW (a : Addr) : Value := .iface 282 (.pointer (some a))
end RW
theorem check_ok (w : World) : Calls Tryz.prog 81 #[.int .i64 0] w fun e w' => e = .returned (.tuple #[]) ∧ w = w' := by
  go_enter Tryz.func81, Tryz.ntmps81
  go_wp2
  go_end0
  exact ⟨rfl, rfl⟩
theorem check_bad (n : Int) (hn : (n != 0) = true) (a : Addr) (w : World) (hg : w.cell? ⟨0, 0, none⟩ = some (RW.eW a)) :
    Calls Tryz.prog 81 #[.int .i64 n] w fun e w' => e = .panicked [{ v := RW.eW a, recovered := false }] ∧ w = w' := by
  unfold RW.eW at hg ⊢
  go_enter Tryz.func81, Tryz.ntmps81
  go_wp2
  exact ⟨rfl, rfl, rfl⟩
theorem ta_nilF (w : World) : (Instr.typeAssert .nilIface 20 91 true).run Tryz.prog w = .ok (.tuple #[.nilIface, .bool false]) w := by kernel_rfl
theorem ta_errF (v : Value) (xT : TypeId) (w : World) : (Instr.typeAssert (.iface 282 v) xT 91 true).run Tryz.prog w = .ok (.tuple #[.iface 282 v, .bool true]) w := run_typeAssert_hasB Tryz.underlying91 (by kernel_rfl) v xT w
set_option maxRecDepth 100000 in
theorem catch_idle (B : Nat) (w : World) :
    CallsD Tryz.prog 78 #[.pointer (some ⟨B, 0, none⟩), .pointer (some ⟨B + 1, 0, none⟩)] .returning w fun e u' w' => e = .returned (.tuple #[]) ∧ u' = .returning ∧ w' = w := by
  refine callsD_of_wpS Tryz.func78 rfl fun c₀ cs hu => ?_
  simp only [Tryz.ntmps78, List.size_toArray, List.length_cons, List.length_nil, Nat.reduceAdd, Nat.reduceSub, Array.replicate_succ, Array.replicate_zero, List.push_toArray, List.append_toArray, List.nil_append, List.cons_append]
  apply wpS_seq
  apply wpS_region
  simp [wpOpsS, go_sem, recoverD, hu, Exit.thenS, ta_nilF]
  refine wpS_of_wp ?_
  go_wp2
  cases c₀
  simp_all [bodyPostS, results, Tryz.results78]
theorem fzero : RW.fcells RW.zeroF ⟨#[]⟩ = #[.int .i64 0, .int .i64 0, .int .i64 0, .int .i64 0, .int .i64 0, .int .i64 0, .int .i64 0, .int .i64 0, .int .i64 0, .int .i64 0, .int .i64 0, .int .i64 0, .int .i64 0, .int .i64 0, .int .i64 0, .int .i64 0, .int .i64 0, .string ⟨#[]⟩] := rfl
set_option maxRecDepth 100000 in
set_option maxHeartbeats 2000000 in
theorem catch_panicking (B : Nat) (a : Addr) (cs0 : Array Value) (v0 : Int) (w : World) (hg : w.cell? ⟨0, 0, none⟩ = some (RW.eW a)) (_hgB : 0 < B)
    (hx : w.heap[B]? = some (.cells cs0 70 (0, 0))) (hn : cs0.size = 18) (hy : w.heap[B + 1]? = some (.cells #[.int .i64 v0] 33 (0, 0))) :
    CallsD Tryz.prog 78 #[.pointer (some ⟨B, 0, none⟩), .pointer (some ⟨B + 1, 0, none⟩)] (.panicking [{ v := RW.eW a, recovered := false }]) w fun e u' w' =>
      e = .returned (.tuple #[]) ∧ u' = .panicking [{ v := RW.eW a, recovered := true }] ∧ w'.heap[B]? = some (.cells (RW.fcells RW.zeroF ⟨#[]⟩) 70 (0, 0)) ∧ w'.heap[B + 1]? = some (.cells #[.int .i64 10] 33 (0, 0)) ∧ Below B w w' := by
  unfold RW.eW at hg ⊢
  have hi1 : (Tryz.prog.info? 70).map (·.size) = some cs0.size := by rw [hn]; kernel_rfl
  have hta := ta_errF (.pointer (some a)) 20
  have hxH := hide hx; have hyH := hide hy; have hnH := hide hn
  have hi2 : (Tryz.prog.info? 70).map (·.size) = some (18 : Nat) := by kernel_rfl
  have hs : ∀ Z, (w.setRow B Z).heap[B + 1]? = some (.cells #[.int .i64 v0] 33 (0, 0)) := fun Z => by
    rw [← hy]; simp only [World.setRow, Array.getElem?_modify]; rw [if_neg (by omega)]
  have hsc : ∀ Z, (w.setRow B Z).cell? ⟨B + 1, 0, none⟩ = some (.int .i64 v0) := fun Z => by rw [cell_of_heap (hs Z)]; rfl
  have hsf : ∀ Z, (w.setRow B Z).frozen? ⟨B + 1, 0, none⟩ = false := fun Z => by simp [World.frozen?, hs Z]
  refine callsD_of_wpS Tryz.func78 rfl fun c₀ cs hu => ?_
  simp only [Tryz.ntmps78, List.size_toArray, List.length_cons, List.length_nil, Nat.reduceAdd, Nat.reduceSub, Array.replicate_succ, Array.replicate_zero, List.push_toArray, List.append_toArray, List.nil_append, List.cons_append]
  apply wpS_seq
  apply wpS_region
  simp [wpOpsS, go_sem, recoverD, hu, Exit.thenS, hta]
  have hsH := hide hs
  clear hx hy hn hs
  refine wpS_of_wp ?_
  go_wp2_with fail
  refine ((is_same a _).mono (R' := fun e W => e = .returned (.bool true) ∧ w = W) (fun _ _ h => ⟨h.1, h.2.symm⟩)).mono ?_
  rintro e w' ⟨rfl, rfl⟩
  go_wp2_with (refine wpList_store_row rfl 70 (.tmp 0) (.tmp 15) rfl B (RW.fcells RW.zeroF ⟨#[]⟩) rfl rfl 70 cs0 hxH.out hi2 (by rw [hnH.out]; rfl) (by rw [fzero]; simp [Value.oneCell']) ?_)
  have q1 : ((w.setRow B (RW.fcells RW.zeroF ⟨#[]⟩)).setCell ⟨B + 1, 0, none⟩ (.int .i64 10)).heap[B]? = some (.cells (RW.fcells RW.zeroF ⟨#[]⟩) 70 (0, 0)) :=
    (Below.heap_setCell _ _ _ _ (show B ≠ B + 1 by omega)).trans (setRow_heap _ _ _ _ _ _ hxH.out)
  have q2 : ((w.setRow B (RW.fcells RW.zeroF ⟨#[]⟩)).setCell ⟨B + 1, 0, none⟩ (.int .i64 10)).heap[B + 1]? = some (.cells #[.int .i64 10] 33 (0, 0)) :=
    heap_setCell_same _ _ _ _ _ _ (hsH.out _)
  have q3 : Below B w ((w.setRow B (RW.fcells RW.zeroF ⟨#[]⟩)).setCell ⟨B + 1, 0, none⟩ (.int .i64 10)) := (RW.below_setRow (Below.refl B w) (Nat.le_refl _) _).setCell (by show B ≤ B + 1; omega) _
  generalize (w.setRow B (RW.fcells RW.zeroF ⟨#[]⟩)).setCell ⟨B + 1, 0, none⟩ (.int .i64 10) = W at q1 q2 q3 ⊢
  clear hsc hsf hta
  simp [bodyPostS, results, Tryz.results78, q1, q2, q3]
end Go.Proofs.YtllbphanfahkkaaGreatDoor

/-
  slices.Sort at ints and slices.Sorted over an iterator: the library's own contracts, laid at this program.
-/
namespace Go.Proofs.YtllbphanfahkkaaGreatDoor
open Go.Shelf
def SH.laysSort_ren : Go.Shelf.Ren := ⟨fun | 5 => 107 | 8 => 144 | 7 => 143 | 19 => 168 | 20 => 169 | 10 => 159 | 11 => 160 | 12 => 161 | 13 => 162 | 14 => 163 | 15 => 164 | 16 => 165 | 17 => 166 | 18 => 167 | 30 => 182 | 31 => 183 | 32 => 184 | 33 => 185 | 34 => 186 | 35 => 187 | 40 => 196 | n => n, fun | 23 => 56 | 25 => 3 | 3 => 3 | 32 => 123 | 22 => 56 | 0 => 0 | 44 => 119 | 46 => 174 | 4 => 4 | 36 => 228 | 35 => 227 | 41 => 232 | 5 => 5 | 9 => 9 | 53 => 255 | 57 => 144 | 63 => 267 | 64 => 268 | n => n, fun | n => n⟩
theorem SH.laysSort : Go.Proofs.SlLaysM.n5 Tryz.prog SH.laysSort_ren := {
  mixed := by kernel_rfl
  f5 := ⟨Tryz.f107.name, by decide, Tryz.func107.trans (congrArg some (by kernel_rfl))⟩
  f7 := ⟨Tryz.f143.name, by decide, Tryz.func143.trans (congrArg some (by kernel_rfl))⟩
  f8 := Tryz.func144.trans (congrArg some (by kernel_rfl))
  f10 := ⟨Tryz.f159.name, by decide, Tryz.func159.trans (congrArg some (by kernel_rfl))⟩
  f11 := ⟨Tryz.f160.name, by decide, Tryz.func160.trans (congrArg some (by kernel_rfl))⟩
  f12 := ⟨Tryz.f161.name, by decide, Tryz.func161.trans (congrArg some (by kernel_rfl))⟩
  f13 := ⟨Tryz.f162.name, by decide, Tryz.func162.trans (congrArg some (by kernel_rfl))⟩
  f14 := ⟨Tryz.f163.name, by decide, Tryz.func163.trans (congrArg some (by kernel_rfl))⟩
  f15 := ⟨Tryz.f164.name, by decide, Tryz.func164.trans (congrArg some (by kernel_rfl))⟩
  f16 := ⟨Tryz.f165.name, by decide, Tryz.func165.trans (congrArg some (by kernel_rfl))⟩
  f17 := ⟨Tryz.f166.name, by decide, Tryz.func166.trans (congrArg some (by kernel_rfl))⟩
  f18 := ⟨Tryz.f167.name, by decide, Tryz.func167.trans (congrArg some (by kernel_rfl))⟩
  f19 := Tryz.func168.trans (congrArg some (by kernel_rfl))
  f20 := Tryz.func169.trans (congrArg some (by kernel_rfl))
  f30 := ⟨Tryz.f182.name, by decide, Tryz.func182.trans (congrArg some (by kernel_rfl))⟩
  f31 := Tryz.func183.trans (congrArg some (by kernel_rfl))
  f32 := Tryz.func184.trans (congrArg some (by kernel_rfl))
  f33 := ⟨Tryz.f185.name, by decide, Tryz.func185.trans (congrArg some (by kernel_rfl))⟩
  f34 := ⟨Tryz.f186.name, by decide, Tryz.func186.trans (congrArg some (by kernel_rfl))⟩
  f35 := ⟨Tryz.f187.name, by decide, Tryz.func187.trans (congrArg some (by kernel_rfl))⟩
  f40 := ⟨Tryz.f196.name, by decide, Tryz.func196.trans (congrArg some (by kernel_rfl))⟩
  t0 := Tryz.underlying0
  a0 := Tryz.isAgg0
  z0 := Tryz.sizeOf0
  v0 := Tryz.zeroValue0
  t3 := Tryz.underlying3
  a3 := Tryz.isAgg3
  z3 := Tryz.sizeOf3
  v3 := Tryz.zeroValue3
  t4 := Tryz.underlying4
  a4 := Tryz.isAgg4
  z4 := Tryz.sizeOf4
  v4 := Tryz.zeroValue4
  t5 := Tryz.underlying5
  a5 := Tryz.isAgg5
  z5 := Tryz.sizeOf5
  v5 := Tryz.zeroValue5
  t9 := Tryz.underlying9
  a9 := Tryz.isAgg9
  z9 := Tryz.sizeOf9
  v9 := Tryz.zeroValue9
  t22 := Tryz.underlying56
  a22 := Tryz.isAgg56
  z22 := Tryz.sizeOf56
  v22 := Tryz.zeroValue56
  t23 := Tryz.underlying56
  a23 := Tryz.isAgg56
  z23 := Tryz.sizeOf56
  v23 := Tryz.zeroValue56
  t25 := Tryz.underlying3
  a25 := Tryz.isAgg3
  z25 := Tryz.sizeOf3
  v25 := Tryz.zeroValue3
  t32 := Tryz.underlying123
  a32 := Tryz.isAgg123
  z32 := Tryz.sizeOf123
  v32 := Tryz.zeroValue123
  t35 := Tryz.underlying227
  a35 := Tryz.isAgg227
  z35 := Tryz.sizeOf227
  v35 := Tryz.zeroValue227
  t36 := Tryz.underlying228
  a36 := Tryz.isAgg228
  z36 := Tryz.sizeOf228
  v36 := Tryz.zeroValue228
  t41 := Tryz.underlying232
  a41 := Tryz.isAgg232
  z41 := Tryz.sizeOf232
  v41 := Tryz.zeroValue232
  t44 := Tryz.underlying119
  a44 := Tryz.isAgg119
  z44 := Tryz.sizeOf119
  v44 := Tryz.zeroValue119
  t46 := Tryz.underlying174
  a46 := Tryz.isAgg174
  z46 := Tryz.sizeOf174
  v46 := Tryz.zeroValue174
  t53 := Tryz.underlying255
  a53 := Tryz.isAgg255
  z53 := Tryz.sizeOf255
  v53 := Tryz.zeroValue255
  t57 := Tryz.underlying144
  a57 := Tryz.isAgg144
  z57 := Tryz.sizeOf144
  v57 := Tryz.zeroValue144
  t63 := Tryz.underlying267
  a63 := Tryz.isAgg267
  z63 := Tryz.sizeOf267
  v63 := Tryz.zeroValue267
  t64 := Tryz.underlying268
  a64 := Tryz.isAgg268
  z64 := Tryz.sizeOf268
  v64 := Tryz.zeroValue268 }
def SH.laysSorted_ren : Go.Shelf.Ren := ⟨fun | 6 => 66 | 8 => 106 | 9 => 107 | 11 => 142 | 13 => 144 | 12 => 143 | 23 => 168 | 24 => 169 | 14 => 159 | 15 => 160 | 16 => 161 | 17 => 162 | 18 => 163 | 19 => 164 | 20 => 165 | 21 => 166 | 22 => 167 | 25 => 182 | 26 => 183 | 27 => 184 | 28 => 185 | 29 => 186 | 30 => 187 | 31 => 196 | n => n, fun | 26 => 3 | 28 => 127 | 24 => 56 | 0 => 0 | 3 => 3 | 37 => 123 | 48 => 119 | 50 => 174 | 4 => 4 | 40 => 228 | 39 => 227 | 45 => 232 | 5 => 5 | 9 => 9 | 51 => 255 | 55 => 144 | 57 => 267 | 58 => 268 | 33 => 130 | n => n, fun | n => n⟩
theorem SH.laysSorted : Go.Proofs.SlLaysZI.n6 Tryz.prog SH.laysSorted_ren := {
  mixed := by kernel_rfl
  f6 := ⟨Tryz.f66.name, by decide, Tryz.func66.trans (congrArg some (by kernel_rfl))⟩
  f8 := ⟨Tryz.f106.name, by decide, Tryz.func106.trans (congrArg some (by kernel_rfl))⟩
  f11 := ⟨Tryz.f142.name, by decide, Tryz.func142.trans (congrArg some (by kernel_rfl))⟩
  t0 := Tryz.underlying0
  a0 := Tryz.isAgg0
  z0 := Tryz.sizeOf0
  v0 := Tryz.zeroValue0
  t24 := Tryz.underlying56
  a24 := Tryz.isAgg56
  z24 := Tryz.sizeOf56
  v24 := Tryz.zeroValue56
  t26 := Tryz.underlying3
  a26 := Tryz.isAgg3
  z26 := Tryz.sizeOf3
  v26 := Tryz.zeroValue3
  t28 := Tryz.underlying127
  a28 := Tryz.isAgg127
  z28 := Tryz.sizeOf127
  v28 := Tryz.zeroValue127
  i26 := by kernel_rfl }
end Go.Proofs.YtllbphanfahkkaaGreatDoor

/-
  slices.Compact and slices.DeleteFunc at ints: the library's own contracts, laid at this program.
-/
namespace Go.Proofs.YtllbphanfahkkaaGreatDoor
open Go.Shelf
def SH.laysCompact_ren : Go.Shelf.Ren := ⟨fun | 43 => 65 | n => n, fun | 22 => 56 | 23 => 3 | 3 => 3 | 4 => 4 | 0 => 0 | n => n, fun | n => n⟩
theorem SH.laysCompact : Go.Proofs.SlLaysN.n43 Tryz.prog SH.laysCompact_ren := {
  mixed := by kernel_rfl
  f43 := ⟨Tryz.f65.name, by decide, Tryz.func65.trans (congrArg some (by kernel_rfl))⟩
  t0 := Tryz.underlying0
  a0 := Tryz.isAgg0
  z0 := Tryz.sizeOf0
  v0 := Tryz.zeroValue0
  t3 := Tryz.underlying3
  a3 := Tryz.isAgg3
  z3 := Tryz.sizeOf3
  v3 := Tryz.zeroValue3
  t4 := Tryz.underlying4
  a4 := Tryz.isAgg4
  z4 := Tryz.sizeOf4
  v4 := Tryz.zeroValue4
  t22 := Tryz.underlying56
  a22 := Tryz.isAgg56
  z22 := Tryz.sizeOf56
  v22 := Tryz.zeroValue56
  t23 := Tryz.underlying3
  a23 := Tryz.isAgg3
  z23 := Tryz.sizeOf3
  v23 := Tryz.zeroValue3
  i23 := by kernel_rfl }
def SH.laysDel_ren : Go.Shelf.Ren := ⟨fun | 10 => 68 | 6 => 109 | n => n, fun | 22 => 56 | 23 => 3 | 25 => 130 | 3 => 3 | 4 => 4 | 0 => 0 | n => n, fun | n => n⟩
theorem SH.laysDel : Go.Proofs.SlLaysH.n10 Tryz.prog SH.laysDel_ren := {
  mixed := by kernel_rfl
  f6 := ⟨Tryz.f109.name, by decide, Tryz.func109.trans (congrArg some (by kernel_rfl))⟩
  f10 := ⟨Tryz.f68.name, by decide, Tryz.func68.trans (congrArg some (by kernel_rfl))⟩
  t0 := Tryz.underlying0
  a0 := Tryz.isAgg0
  z0 := Tryz.sizeOf0
  v0 := Tryz.zeroValue0
  t3 := Tryz.underlying3
  a3 := Tryz.isAgg3
  z3 := Tryz.sizeOf3
  v3 := Tryz.zeroValue3
  t4 := Tryz.underlying4
  a4 := Tryz.isAgg4
  z4 := Tryz.sizeOf4
  v4 := Tryz.zeroValue4
  t22 := Tryz.underlying56
  a22 := Tryz.isAgg56
  z22 := Tryz.sizeOf56
  v22 := Tryz.zeroValue56
  a23 := Tryz.isAgg3
  z23 := Tryz.sizeOf3
  t25 := Tryz.underlying130
  a25 := Tryz.isAgg130
  z25 := Tryz.sizeOf130
  v25 := Tryz.zeroValue130 }
end Go.Proofs.YtllbphanfahkkaaGreatDoor

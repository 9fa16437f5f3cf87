/-
  Package fact: Encode and ID: what they return; only new memory is written.
-/
import Derived.Test.YtnlphbfjeekooaaGreatDoorFact6
import Derived.Test.YtnlphbfjeekooaaGreatDoorBldS
import Derived.Test.YtnlphbfjeekooaaGreatDoorCmp
import Derived.Test.YtnlphbfjeekooaaGreatDoorMA
import Derived.Test.YtnlphbfjeekooaaGreatDoorMB
namespace Go.Proofs.YtnlphbfjeekooaaGreatDoor
open Go.RowKit
namespace RW
def encTo (f : Nat → Int) (j : Nat) : List UInt8 := (List.range j).flatMap fun i => putI (f i)
def encL (f : Nat → Int) (s : List UInt8) : List UInt8 := encTo f 17 ++ putS s
theorem encTo_succ (f : Nat → Int) (j : Nat) : encTo f (j + 1) = encTo f j ++ putI (f j) := by
  unfold encTo; rw [List.range_succ, List.flatMap_append]; simp
theorem encTo_len (f : Nat → Int) (j : Nat) : (encTo f j).length ≤ 10 * j := by
  induction j with
  | zero => simp [encTo]
  | succ j ih => rw [encTo_succ, List.length_append]; have := putI_len (f j); omega
theorem ptrs_get (r i : Nat) (h : i < 17) : (ptrs r)[i]? = some (.pointer (some ⟨r, i, none⟩)) := by
  have h' : i = 0 ∨ i = 1 ∨ i = 2 ∨ i = 3 ∨ i = 4 ∨ i = 5 ∨ i = 6 ∨ i = 7 ∨ i = 8 ∨ i = 9 ∨ i = 10 ∨ i = 11 ∨ i = 12 ∨ i = 13 ∨ i = 14 ∨ i = 15 ∨ i = 16 := by omega
  rcases h' with rfl | rfl | rfl | rfl | rfl | rfl | rfl | rfl | rfl | rfl | rfl | rfl | rfl | rfl | rfl | rfl | rfl <;> rfl
theorem below_grown {w w' : World} (h : Below w.heap.size w w') : w.grownBy w' none := ⟨h.os, h.tape, h.output, h.size, fun k hk _ => h.block k hk⟩
theorem bld_kept {T el : TypeId} {B b : Nat} {p : Value} {bs : List Value} {w w' : World} (h : Lib.BuilderAt T el B b p bs w) (hB : Below w.heap.size w w') : Lib.BuilderAt T el B b p bs w' := by
  obtain ⟨hb, v, hv, ho, hne⟩ := h
  exact ⟨hb, v, (hB.block _ (Array.getElem?_eq_some_iff.1 hv).1).trans hv, ho.kept (below_grown hB) (by cases e : v.ownBlock <;> simp), hne⟩
theorem isbld_kept {T e : TypeId} {B b : Nat} {bs : List Value} {w w' : World} (h : Lib.IsBuilder T e B b bs w) (hB : Below w.heap.size w w') : Lib.IsBuilder T e B b bs w' := by
  rcases h with h | h
  · exact .inl (bld_kept h hB)
  · exact .inr (bld_kept h hB)
theorem bld_new {T e : TypeId} (w : World) : Lib.IsBuilder T e w.heap.size w.heap.size [] (w.alloc (.cells #[.pointer none, .slice none 0 0] T)) :=
  .inl ⟨Nat.le_refl _, _, heap_alloc_new w _, World.ownsRow_nil _ _ _ _, by simp [Value.ownBlock]⟩
end RW
set_option maxRecDepth 100000 in
set_option maxHeartbeats 2000000 in
theorem encode_yes (f : Nat → Int) (s : ByteArray) (w : World) (hv : RW.validB f s.size = true) (hs : s.size ≤ 65536) (hbd : ∀ i, i < 17 → -4611686018427387903 ≤ f i ∧ f i ≤ 4611686018427387903) :
    Calls Tryz.prog 57 #[.agg (RW.fcells f s)] w fun e w' => e = .returned (.tuple #[.string ⟨(RW.encL f s.data.toList).toArray⟩, .int .i64 0]) ∧ Below w.heap.size w w' := by
  have hV : ∀ W : World, Calls Tryz.prog 75 #[.agg (RW.fcells f s)] W fun e w' => e = .returned (.bool true) ∧ Below W.heap.size W w' := fun W => hv ▸ valid_any f s W
  have hfold := fcells_fold f s
  obtain ⟨cs, hcs⟩ : ∃ cs, cs = RW.fcells f s := ⟨_, rfl⟩
  rw [← hcs] at hV hfold ⊢
  obtain ⟨w1, hw1⟩ : ∃ w1, w1 = w.alloc (.cells cs 38) := ⟨_, rfl⟩
  have hH1 : w1.heap[w.heap.size]? = some (.cells cs 38 (0, 0)) := hw1 ▸ heap_alloc_new w _
  have hB1 : Below w.heap.size w w1 := hw1 ▸ (Below.refl _ _).alloc (Nat.le_refl _) _
  have hlt : w.heap.size < w1.heap.size := (Array.getElem?_eq_some_iff.1 hH1).1
  have hi1 : (Tryz.prog.info? 38).map (·.size) = some cs.size := by rw [hcs]; kernel_rfl
  have hsz : cs.size = 18 := by rw [hcs]; rfl
  have hcs' := hide hcs
  have hw1' := hide hw1
  have hVH := hide hV
  clear hcs hw1 hV
  go_enter Tryz.func57, Tryz.ntmps57
  go_upto_region 1 with fail
  rw [← hw1'.out]
  go_wp2_with (first | (refine wpList_load_row rfl 38 (.tmp 1) rfl w.heap.size rfl 38 cs (0, 0) _ hH1 Tryz.underlying38 rfl hi1 ?_))
  refine (hVH.out _).mono ?_
  rintro e w2 ⟨rfl, hB2⟩
  have hH2 := (hB2.block _ hlt).trans hH1
  have hl2 : w.heap.size < w2.heap.size := by have := hB2.size; omega
  have hH3 : ∀ o, (w2.alloc o).heap[w.heap.size]? = some (.cells cs 38 (0, 0)) := fun o => (Below.heap_alloc _ _ _ hl2).trans hH2
  have hBB2 : Below w.heap.size w w2 := hB1.trans (hB2.mono (by omega))
  have hbl := RW.bld_new (T := 106) (e := 5) w2
  have hbH := hide hbl
  clear hB2 hbl hH1 hB1
  go_wp2_with (refine wpList_load_row rfl 38 (.tmp 1) rfl w.heap.size rfl 38 cs (0, 0) _ (hH3 _) Tryz.underlying38 rfl hi1 ?_)
  refine (numbers_any _ _).mono ?_
  rintro e w4 ⟨rfl, hB4⟩
  have hb4 : Lib.IsBuilder 106 5 w2.heap.size w2.heap.size [] w4 := by
    refine RW.isbld_kept (RW.isbld_kept hbH.out ?_) hB4
    exact (Below.refl _ _).alloc (Nat.le_refl _) _
  have hr4 : w4.heap[w2.heap.size + 1]? = some (.cells cs 109 (0, 0)) := (hB4.block _ (by simp)).trans (heap_new_at (by simp))
  have hH4 : w4.heap[w.heap.size]? = some (.cells cs 38 (0, 0)) := (hB4.block _ (by simp; omega)).trans ((Below.heap_alloc _ _ _ (by simp; omega)).trans (hH3 _))
  have hBB4 : Below w.heap.size w w4 := hBB2.trans ((((Below.refl _ _).alloc (by omega) _).alloc (by simp; omega) _).trans (hB4.mono (by simp; omega)))
  have hs4 : w2.heap.size + 2 ≤ w4.heap.size := by have := hB4.size; simpa using this
  have hr5 : (Tryz.prog.info? 110).map (·.size) = some 1 := by kernel_rfl
  clear hbH hB4 hH3 hBB2 hH2 hfold
  obtain ⟨b, hb⟩ : ∃ b, b = w2.heap.size := ⟨_, rfl⟩
  have hix : ∀ j : Nat, j < 17 → ∀ W', (Instr.index 111 (.agg (RW.ptrs (w2.heap.size + 1))) (.int .i64 (j : Int))).run Tryz.prog W' = .ok (.pointer (some ⟨w2.heap.size + 1, j, none⟩)) W' := fun j hj W' => by
    have h1 := RW.ptrs_get (w2.heap.size + 1) j hj
    cases hq : Tryz.prog.info? 110 with
    | none => simp [hq] at hr5
    | some inf =>
      have h2 : inf.size = 1 := by simpa [hq] using hr5
      simp [Instr.index, asIntOf, run_underlying Tryz.underlying111, hj, part, isAgg, run_underlying Tryz.underlying110, sizeOf, typeInfo, hq, h2, h1]
  rw [← hb] at hb4 hr4 hs4 hl2 hix ⊢
  have hixH := hide hix
  clear hix hb hr5
  go_wp2
  go_loopw [20] (fun i wr => ∃ j : Nat, j ≤ 17 ∧ i = .int .i64 j ∧ Lib.IsBuilder 106 5 b b (Lib.byteCells (RW.encTo f j)) wr ∧ wr.heap[b + 1]? = some (.cells cs 109 (0, 0)) ∧ wr.heap[w.heap.size]? = some (.cells cs 38 (0, 0)) ∧ Below w.heap.size w wr ∧ b + 2 ≤ wr.heap.size) (fun i _ => 17 - (intOf i).toNat)
  case atStart => exact ⟨0, by omega, rfl, hb4, hr4, hH4, hBB4, hs4⟩
  case round =>
    clear hb4 hr4 hH4 hBB4 hs4
    obtain ⟨j, hj, rfl, hbw, hrw, hfw, hBw, hsw⟩ := hrel
    by_cases hlt : j < 17
    · have cj : wr.cell? ⟨b + 1, j, none⟩ = some (.int .i64 (f j)) := by rw [cell_of_heap hrw, hcs'.out, fcells_get _ _ _ hlt]
      have hix := hixH.out j hlt
      have hn1 := hbd j hlt
      have hlen : (Lib.byteCells (RW.encTo f j)).length + (⟨(RW.putI (f j)).toArray⟩ : ByteArray).size ≤ 140737488355328 := by
        have h1 := RW.encTo_len f j
        have h2 := RW.putI_len (f j)
        have h3 : (⟨(RW.putI (f j)).toArray⟩ : ByteArray).size = (RW.putI (f j)).length := by show (RW.putI (f j)).toArray.size = _; simp
        rw [Lib.byteCells_length]; omega
      have hbwH := hide hbw
      clear hbw
      go_wp2_with (first | (go_at_call 77; refine (putint _ hn1.1 hn1.2 _).mono ?_; rintro e w5 ⟨rfl, hB5⟩; have hb5 := hide (RW.isbld_kept hbwH.out hB5)) | (go_at_call 78; refine (writestring b b _ _ _ hb5.out hlen (by have := hB5.size; omega)).mono ?_; rintro e w6 ⟨rfl, hb6, hB6, hk6⟩))
      go_roundw
      case rel =>
        have h5 := (hB5.block _ (by omega)).trans hrw
        refine ⟨j + 1, by omega, by go_num, ?_, (hk6 _ _ _ _ h5 (by decide) (by omega)).trans h5, (hB6.block _ hl2).trans ((hB5.block _ (by omega)).trans hfw), hBw.trans ((hB5.mono (by omega)).trans (hB6.mono (by omega))), by have := hB6.size; have := hB5.size; omega⟩
        rw [RW.encTo_succ]
        have e : Lib.byteCells (RW.encTo f j ++ RW.putI (f j)) = Lib.byteCells (RW.encTo f j) ++ Lib.strCells ⟨(RW.putI (f j)).toArray⟩ := by simp [Lib.byteCells, Lib.strCells]
        rw [e]; exact .inr hb6
      case measure => simp [intOf]; omega
    · obtain rfl : j = 17 := by omega
      have c17 : wr.cell? ⟨w.heap.size, 17, none⟩ = some (.string s) := by rw [cell_of_heap hfw, hcs'.out, fcells_text]
      have hlen : (Lib.byteCells (RW.encTo f 17)).length + (⟨(RW.putS s.data.toList).toArray⟩ : ByteArray).size ≤ 140737488355328 := by
        have h1 := RW.encTo_len f 17
        have h2 := RW.putI_len s.size
        have h3 : (⟨(RW.putS s.data.toList).toArray⟩ : ByteArray).size = (RW.putS s.data.toList).length := by show (RW.putS s.data.toList).toArray.size = _; simp
        have h4 : (RW.putS s.data.toList).length = (RW.putI s.size).length + s.size := by rw [RW.putS_eq, List.length_append, Array.length_toList]; rfl
        rw [Lib.byteCells_length]; omega
      have hbwH := hide hbw
      clear hbw hrw hfw
      go_wp2_with (first | (go_at_call 79; refine (putstr s hs _).mono ?_; rintro e w5 ⟨rfl, hB5⟩; have hb5 := hide (RW.isbld_kept hbwH.out hB5)) | (go_at_call 78; refine (writestring b b _ _ _ hb5.out hlen (by have := hB5.size; omega)).mono ?_; rintro e w6 ⟨rfl, hb6, hB6, hk6⟩))
      have e : Lib.byteCells (RW.encTo f 17) ++ Lib.strCells ⟨(RW.putS s.data.toList).toArray⟩ = Lib.byteCells (RW.encL f s.data.toList) := by simp [Lib.byteCells, Lib.strCells, RW.encL]
      rw [e] at hb6
      refine (SH.Builder_String_any b b _ _ (.inr hb6) (by have := hB6.size; have := hB5.size; omega)).mono ?_
      rintro e w8 ⟨rfl, hB8⟩
      go_wp2
      go_ret2
      exact ⟨rfl, hBw.trans ((hB5.mono (by omega)).trans ((hB6.mono (by omega)).trans (hB8.mono (by omega))))⟩
set_option maxRecDepth 100000 in
set_option maxHeartbeats 2000000 in
theorem encode_no (f : Nat → Int) (s : ByteArray) (w : World) (hv : RW.validB f s.size = false) :
    Calls Tryz.prog 57 #[.agg (RW.fcells f s)] w fun e w' => e = .returned (.tuple #[.string ⟨#[]⟩, .int .i64 50]) ∧ Below w.heap.size w w' := by
  have hV : ∀ W : World, Calls Tryz.prog 75 #[.agg (RW.fcells f s)] W fun e w' => e = .returned (.bool false) ∧ Below W.heap.size W w' := fun W => hv ▸ valid_any f s W
  obtain ⟨cs, hcs⟩ : ∃ cs, cs = RW.fcells f s := ⟨_, rfl⟩
  rw [← hcs] at hV ⊢
  obtain ⟨w1, hw1⟩ : ∃ w1, w1 = w.alloc (.cells cs 38) := ⟨_, rfl⟩
  have hH1 : w1.heap[w.heap.size]? = some (.cells cs 38 (0, 0)) := hw1 ▸ heap_alloc_new w _
  have hB1 : Below w.heap.size w w1 := hw1 ▸ (Below.refl _ _).alloc (Nat.le_refl _) _
  have hlt : w.heap.size < w1.heap.size := (Array.getElem?_eq_some_iff.1 hH1).1
  have hi1 : (Tryz.prog.info? 38).map (·.size) = some cs.size := by rw [hcs]; kernel_rfl
  have hsz : cs.size = 18 := by rw [hcs]; rfl
  have hw1' := hide hw1
  have hVH := hide hV
  clear hcs hw1 hV
  go_enter Tryz.func57, Tryz.ntmps57
  go_upto_region 1 with fail
  rw [← hw1'.out]
  go_wp2_with (first | (refine wpList_load_row rfl 38 (.tmp 1) rfl w.heap.size rfl 38 cs (0, 0) _ hH1 Tryz.underlying38 rfl hi1 ?_))
  refine (hVH.out _).mono ?_
  rintro e w2 ⟨rfl, hB2⟩
  go_wp2
  go_ret2
  exact ⟨rfl, hB1.trans (hB2.mono (by omega))⟩
namespace RW
theorem valid_lims (f : Nat → Int) (n : Nat) (hv : validB f n = true) : n ≤ 2000 ∧ (1 ≤ f 0 ∧ f 0 ≤ 10) ∧ (1 ≤ f 2 ∧ f 2 ≤ 1000) ∧ ∀ i, i < 17 → -4611686018427387903 ≤ f i ∧ f i ≤ 4611686018427387903 := by
  obtain ⟨h0, h2, hn, hk⟩ := (dec_iff _).1 hv
  obtain ⟨h3, _, h5⟩ := (dec_iff _).1 hk
  refine ⟨hn, h0, h2, fun i hi => ?_⟩
  by_cases i0 : i = 0
  · subst i0; omega
  by_cases i2 : i = 2
  · subst i2; omega
  by_cases hx : ∀ x ∈ kf (f 0).toNat (f 12), x.1 ≠ i
  · have := h5 i hi i0 i2 hx; omega
  · have hx' : ∃ x ∈ kf (f 0).toNat (f 12), x.1 = i := Classical.byContradiction fun h => hx fun x hm he => h ⟨x, hm, he⟩
    obtain ⟨x, hxm, hxi⟩ := hx'
    obtain ⟨k, hk⟩ : ∃ k : Nat, (f 0).toNat = k + 1 := ⟨(f 0).toNat - 1, by omega⟩
    have hk10 : k < 10 := by omega
    rw [hk] at hxm h3
    have hb := h3 x hxm
    subst hxi
    have h12 : k = 2 → 1 ≤ f 12 ∧ f 12 ≤ 1200 := by
      intro e; subst e
      exact h3 (12, 1, 1200) (by simp [kf])
    have : (∀ y ∈ kf (k + 1) (f 12), (0 ≤ y.2.1 ∧ y.2.2 ≤ 100000000000)) := by
      match k, hk10 with
      | 2, _ =>
        have h := h12 rfl
        have e : IntKind.i64.wrap (f 12 - 1) = f 12 - 1 := IntWalk.i64_in _ (by omega)
        simp [kf, e]; omega
      | 0, _ => simp [kf]
      | 1, _ => simp [kf]
      | 3, _ => simp [kf]
      | 4, _ => simp [kf]
      | 5, _ => simp [kf]
      | 6, _ => simp [kf]
      | 7, _ => simp [kf]
      | 8, _ => simp [kf]
      | 9, _ => simp [kf]
    have := this x hxm
    omega
/-- what Encode gives -/
noncomputable def encR (f : Nat → Int) (s : ByteArray) : Value := match validB f s.size with
  | true => .tuple #[.string ⟨(encL f s.data.toList).toArray⟩, .int .i64 0]
  | false => .tuple #[.string ⟨#[]⟩, .int .i64 50]
theorem encR_yes (f : Nat → Int) (s : ByteArray) (h : validB f s.size = true) : encR f s = .tuple #[.string ⟨(encL f s.data.toList).toArray⟩, .int .i64 0] := by unfold encR; rw [h]
theorem encR_no (f : Nat → Int) (s : ByteArray) (h : validB f s.size = false) : encR f s = .tuple #[.string ⟨#[]⟩, .int .i64 50] := by unfold encR; rw [h]
end RW
theorem encode_any (f : Nat → Int) (s : ByteArray) (w : World) :
    Calls Tryz.prog 57 #[.agg (RW.fcells f s)] w fun e w' => e = .returned (RW.encR f s) ∧ Below w.heap.size w w' := by
  cases hv : RW.validB f s.size
  · rw [RW.encR_no _ _ hv]; exact encode_no f s w hv
  · rw [RW.encR_yes _ _ hv]
    obtain ⟨h1, _, _, h2⟩ := RW.valid_lims f s.size hv
    exact encode_yes f s w hv (by omega) h2
end Go.Proofs.YtnlphbfjeekooaaGreatDoor

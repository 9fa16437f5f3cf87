/-
  Package journal: open: what it returns: a journal, or that the disk is damaged.
-/
import Derived.Test.YtllbphanfahkkaaGreatDoorJn3
namespace Go.Proofs.YtllbphanfahkkaaGreatDoor
open Go.RowKit Go.Stop RG
/-- a journal in memory -/
structure JrAt (H : List UInt8 → List UInt8) (W : World) (B jb d : Nat) (rv : Value) (rs : List ByteArray) (br : Bool) : Prop where
  b : W.heap[jb]? = some (.cells (tpc rv (RW.strOf (RW.hds H RW.z32 rs)) (RW.stos H RW.z32 rs).length [.pointer (some ⟨d, 0, none⟩), .bool br]) 85 (0, 0))
  own : StrsOwn W B rv rs
  hb : B ≤ jb
theorem ta_nil (w : World) : (Instr.typeAssert .nilIface 20 91 true).run Tryz.prog w = .ok (.tuple #[.nilIface, .bool false]) w := by kernel_rfl
theorem ta_err (v : Value) (xT : TypeId) (w : World) : (Instr.typeAssert (.iface 282 v) xT 91 true).run Tryz.prog w = .ok (.tuple #[.iface 282 v, .bool true]) w := run_typeAssert_hasB Tryz.underlying91 (by kernel_rfl) v xT w
theorem own_mono {W : World} {B B' : Nat} {e : TypeId} {k n : Nat} {v : Value} {xs : List Value} (h : W.ownsRow B e k v n xs) (hb : B' ≤ B) : W.ownsRow B' e k v n xs := by
  refine ⟨h.1, h.2.imp id ?_⟩
  rintro ⟨g, cap, cur, h1, h2, h3, h4⟩
  exact ⟨g, cap, cur, h1, Nat.le_trans hb h2, h3, h4⟩
set_option maxRecDepth 100000 in
theorem jcatch_idle (B : Nat) (w : World) :
    CallsD Tryz.prog 94 #[.pointer (some ⟨B, 0, none⟩), .pointer (some ⟨B + 1, 0, none⟩)] .returning w fun e u' w' => e = .returned (.tuple #[]) ∧ u' = .returning ∧ w' = w := by
  refine callsD_of_wpS Tryz.func94 rfl fun c₀ cs hu => ?_
  simp only [Tryz.ntmps94, List.size_toArray, List.length_cons, List.length_nil, Nat.reduceAdd, Nat.reduceSub, Array.replicate_succ, Array.replicate_zero, List.push_toArray, List.append_toArray, List.nil_append, List.cons_append]
  apply wpS_seq
  apply wpS_region
  simp [wpOpsS, go_sem, recoverD, hu, Exit.thenS, ta_nil]
  refine wpS_of_wp ?_
  go_wp2
  cases c₀
  simp_all [bodyPostS, results, Tryz.results94]
set_option maxRecDepth 100000 in
set_option maxHeartbeats 2000000 in
theorem jcatch_panicking (B : Nat) (a : Addr) (v0 : Option Addr) (n0 : Int) (w : World) (hg : w.cell? ⟨1, 0, none⟩ = some (RW.jeW a))
    (hx : w.heap[B]? = some (.cells #[.pointer v0] 28 (0, 0))) (hy : w.heap[B + 1]? = some (.cells #[.int .i64 n0] 33 (0, 0))) :
    CallsD Tryz.prog 94 #[.pointer (some ⟨B, 0, none⟩), .pointer (some ⟨B + 1, 0, none⟩)] (.panicking [{ v := RW.jeW a, recovered := false }]) w fun e u' w' =>
      e = .returned (.tuple #[]) ∧ u' = .panicking [{ v := RW.jeW a, recovered := true }] ∧ w'.heap[B]? = some (.cells #[.pointer none] 28 (0, 0)) ∧ w'.heap[B + 1]? = some (.cells #[.int .i64 232] 33 (0, 0)) ∧ Below B w w' := by
  unfold RW.jeW at hg ⊢
  have hta := ta_err (.pointer (some a)) 20
  have c0 : w.cell? ⟨B, 0, none⟩ = some (.pointer v0) := cellAt hx 0
  have f0 : w.frozen? ⟨B, 0, none⟩ = false := unfrozen hx
  have hyS := hide (show ∀ v, (w.setCell ⟨B, 0, none⟩ v).heap[B + 1]? = some (.cells #[.int .i64 n0] 33 (0, 0)) from fun v => (Below.heap_setCell _ _ _ _ (show B + 1 ≠ B by omega)).trans hy)
  have c1 : ∀ v, (w.setCell ⟨B, 0, none⟩ v).cell? ⟨B + 1, 0, none⟩ = some (.int .i64 n0) := fun v => cellAt (hyS.out v) 0
  have f1 : ∀ v, (w.setCell ⟨B, 0, none⟩ v).frozen? ⟨B + 1, 0, none⟩ = false := fun v => unfrozen (hyS.out v)
  have q1 := hide (show ((w.setCell ⟨B, 0, none⟩ (.pointer none)).setCell ⟨B + 1, 0, none⟩ (.int .i64 232)).heap[B]? = some (.cells #[.pointer none] 28 (0, 0)) from
    (Below.heap_setCell _ _ _ _ (show B ≠ B + 1 by omega)).trans (heap_setCell_same _ _ _ _ _ _ hx))
  have q2 := hide (show ((w.setCell ⟨B, 0, none⟩ (.pointer none)).setCell ⟨B + 1, 0, none⟩ (.int .i64 232)).heap[B + 1]? = some (.cells #[.int .i64 232] 33 (0, 0)) from heap_setCell_same _ _ _ _ _ _ (hyS.out _))
  have q3 := hide (show Below B w ((w.setCell ⟨B, 0, none⟩ (.pointer none)).setCell ⟨B + 1, 0, none⟩ (.int .i64 232)) from ((Below.refl B w).setCell (p := ⟨B, 0, none⟩) (Nat.le_refl _) _).setCell (p := ⟨B + 1, 0, none⟩) (by show B ≤ B + 1; omega) _)
  clear hx hy
  refine callsD_of_wpS Tryz.func94 rfl fun c₀ cs hu => ?_
  simp only [Tryz.ntmps94, List.size_toArray, List.length_cons, List.length_nil, Nat.reduceAdd, Nat.reduceSub, Array.replicate_succ, Array.replicate_zero, List.push_toArray, List.append_toArray, List.nil_append, List.cons_append]
  apply wpS_seq
  apply wpS_region
  simp [wpOpsS, go_sem, recoverD, hu, Exit.thenS, hta]
  refine wpS_of_wp ?_
  go_wp2_with fail
  refine ((is_same a _).mono (R' := fun e W => e = .returned (.bool true) ∧ w = W) (fun _ _ h => ⟨h.1, h.2.symm⟩)).mono ?_
  rintro e w' ⟨rfl, rfl⟩
  go_wp2_with fail
  have q1' := q1.out
  have q2' := q2.out
  have q3' := q3.out
  clear q1 q2 q3 hyS c1 f1 c0 f0 hta
  generalize (w.setCell ⟨B, 0, none⟩ (.pointer none)).setCell ⟨B + 1, 0, none⟩ (.int .i64 232) = W at q1' q2' q3' ⊢
  simp [bodyPostS, results, Tryz.results94, q1', q2', q3']
theorem open_results (tmps : Array Value) (w : World) (B : Nat) (p : Option Addr) (v : Int) (h2 : tmps[4]? = some (.pointer (some ⟨B, 0, none⟩))) (h3 : tmps[5]? = some (.pointer (some ⟨B + 1, 0, none⟩)))
    (hx : w.heap[B]? = some (.cells #[.pointer p] 28 (0, 0))) (hy : w.heap[B + 1]? = some (.cells #[.int .i64 v] 33 (0, 0))) :
    (results Tryz.f59 tmps).run Tryz.prog w = .ok (.tuple #[.pointer p, .int .i64 v]) w := by
  have e1 : w.cell? ⟨B, 0, none⟩ = some (.pointer p) := cellAt hx 0
  have e2 : w.cell? ⟨B + 1, 0, none⟩ = some (.int .i64 v) := cellAt hy 0
  have e3 : (loadVar 33 ⟨B + 1, 0, none⟩).run Tryz.prog w = .ok (.int .i64 v) w := by simp [go_sem, e2]
  have e4 : (loadVar 28 ⟨B, 0, none⟩).run Tryz.prog w = .ok (.pointer p) w := by simp [go_sem, e1]
  simp [results, Tryz.results59, h2, h3, asAddr, e4, e3]
theorem jcells0 (d : Nat) : (#[.slice none 0 0, .string (RW.strOf RW.z32), .int .i64 0, .pointer (some ⟨d, 0, none⟩), .bool false] : Array Value) = tpc (.slice none 0 0) (RW.strOf RW.z32) 0 [.pointer (some ⟨d, 0, none⟩), .bool false] := rfl
set_option maxRecDepth 100000 in
set_option maxHeartbeats 8000000 in
theorem open_any (d : Nat) (s : ByteArray) (hs : s.size ≤ 4194304) (a : Addr) (K : Nat → Int) (ks : Array Value) (hks : RW.WsOk ks K) (w : World) (hK : KLaid w ks) (hg : w.cell? ⟨1, 0, none⟩ = some (RW.jeW a)) :
    Calls Tryz.prog 59 #[.pointer (some ⟨d, 0, none⟩), .string s] w fun e w' => Below w.heap.size w w' ∧
      ((RW.ldL (RW.sha K) RW.z32 s.data.toList = none ∧ e = .returned (.tuple #[.pointer none, .int .i64 232])) ∨
      ∃ qs m jb rv, RW.ldL (RW.sha K) RW.z32 s.data.toList = some (qs, m) ∧ e = .returned (.tuple #[.pointer (some ⟨jb, 0, none⟩), .int .i64 0]) ∧ JrAt (RW.sha K) w' w.heap.size jb d rv qs false) := by
  have hmf : ∀ (fn : Fn) (first cap : Array Value) (w : World), (Instr.makeFunc fn first cap).run Tryz.prog w = .ok (.func fn first cap) w := fun _ _ _ _ => rfl
  have hgl : 1 < w.heap.size := by
    cases h : w.heap[1]? with
    | none => simp [World.cell?, h] at hg
    | some o => exact (Array.getElem?_eq_some_iff.1 h).1
  have hkl : 4 < w.heap.size := by
    obtain ⟨t, fr, h⟩ := hK
    exact (Array.getElem?_eq_some_iff.1 h).1
  obtain ⟨B, hB⟩ : ∃ B, B = w.heap.size := ⟨_, rfl⟩
  rw [← hB] at hgl hkl ⊢
  have hBH := hide hB
  have hKW := hide (fun W (hW : Below B w W) => (show KLaid W ks ∧ W.cell? ⟨1, 0, none⟩ = some (RW.jeW a) from by
    obtain ⟨t, fr, h⟩ := hK
    exact ⟨⟨t, fr, (hW.block _ hkl).trans h⟩, (World.cell?_of_block (a := ⟨1, 0, none⟩) (hW.block _ hgl)).trans hg⟩))
  have hglH := hide hgl
  have hklH := hide hkl
  have h0 := hide (show ((w.alloc (.cells #[.pointer none] 28)).alloc (.cells #[.int .i64 0] 33)).heap[B]? = some (.cells #[.pointer none] 28 (0, 0)) ∧ ((w.alloc (.cells #[.pointer none] 28)).alloc (.cells #[.int .i64 0] 33)).heap[B + 1]? = some (.cells #[.int .i64 0] 33 (0, 0)) ∧ Below B w ((w.alloc (.cells #[.pointer none] 28)).alloc (.cells #[.int .i64 0] 33)) from
    ⟨by rw [hB]; exact alloc_old _ _ (alloc_at1 _ _), by rw [hB, ← alloc_size w (.cells #[.pointer none] 28)]; exact alloc_at1 _ _, by rw [hB]; exact alloc_bel (alloc_bel (Below.refl _ _) (Nat.le_refl _) _) (Nat.le_refl _) _⟩)
  have hmk : ∀ W : World, (Instr.makeSlice 39 (.int .i64 32) (.int .i64 32)).run Tryz.prog W = .ok (.slice (some ⟨W.heap.size, 0, none⟩) 32 32) (W.alloc (.cells (RW.byl RW.z32).toArray 5)) := fun W => run_make_by 32 (by decide) W
  clear hK hg hgl hkl
  go_enter_defers Tryz.func59, Tryz.ntmps59
  go_upto_region 2 with fail
  rw [← hB]
  refine gen_w (fun W => W.heap[B]? = some (.cells #[.pointer none] 28 (0, 0)) ∧ W.heap[B + 1]? = some (.cells #[.int .i64 0] 33 (0, 0)) ∧ Below B w W) h0.out ?_
  clear h0 hB
  rintro w1 ⟨hx1, hy1, hB1⟩
  obtain ⟨g, hg⟩ : ∃ g, g = w1.heap.size := ⟨_, rfl⟩
  have hlt1 := hide (show B + 1 < w1.heap.size from (Array.getElem?_eq_some_iff.1 hy1).1)
  obtain ⟨w2, hw2⟩ : ∃ x, x = w1.alloc (.cells (RW.byl RW.z32).toArray 5) := ⟨_, rfl⟩
  have hcv : (convert 39 9 (.slice (some ⟨w1.heap.size, 0, none⟩) 32 32)).run Tryz.prog (w1.alloc (.cells (RW.byl RW.z32).toArray 5)) = .ok (.string (RW.strOf RW.z32)) (w1.alloc (.cells (RW.byl RW.z32).toArray 5)) := by
    have h1 := run_conv (w1.alloc (.cells (RW.byl RW.z32).toArray 5)) w1.heap.size RW.z32 (alloc_at1 _ _) 0 32 32 (by decide)
    rw [List.drop_zero, show RW.z32.take 32 = RW.z32 from rfl] at h1
    exact h1
  have c0 : ((w1.alloc (.cells (RW.byl RW.z32).toArray 5)).alloc (.cells #[.slice none 0 0, .string (RW.strOf RW.z32), .int .i64 0, .pointer (some ⟨d, 0, none⟩), .bool false] 85)).cell? ⟨B, 0, none⟩ = some (.pointer none) := cellAt (alloc_old _ _ (alloc_old _ _ hx1)) 0
  have f0 : ((w1.alloc (.cells (RW.byl RW.z32).toArray 5)).alloc (.cells #[.slice none 0 0, .string (RW.strOf RW.z32), .int .i64 0, .pointer (some ⟨d, 0, none⟩), .bool false] 85)).frozen? ⟨B, 0, none⟩ = false := unfrozen (alloc_old _ _ (alloc_old _ _ hx1))
  obtain ⟨jb, hjb⟩ : ∃ j, j = w1.heap.size + 1 := ⟨_, rfl⟩
  have h3 := hide (show ∀ W3, W3 = ((w1.alloc (.cells (RW.byl RW.z32).toArray 5)).alloc (.cells #[.slice none 0 0, .string (RW.strOf RW.z32), .int .i64 0, .pointer (some ⟨d, 0, none⟩), .bool false] 85)).setCell ⟨B, 0, none⟩ (.pointer (some ⟨jb, 0, none⟩)) → W3.heap[B]? = some (.cells #[.pointer (some ⟨jb, 0, none⟩)] 28 (0, 0)) ∧ W3.heap[B + 1]? = some (.cells #[.int .i64 0] 33 (0, 0)) ∧ W3.heap[jb]? = some (.cells (tpc (.slice none 0 0) (RW.strOf RW.z32) 0 [.pointer (some ⟨d, 0, none⟩), .bool false]) 85 (0, 0)) ∧ Below B w W3 ∧ jb ≤ W3.heap.size from by
    rintro W3 rfl
    have hj : ((w1.alloc (.cells (RW.byl RW.z32).toArray 5)).alloc (.cells #[.slice none 0 0, .string (RW.strOf RW.z32), .int .i64 0, .pointer (some ⟨d, 0, none⟩), .bool false] 85)).heap[jb]? = some (.cells (tpc (.slice none 0 0) (RW.strOf RW.z32) 0 [.pointer (some ⟨d, 0, none⟩), .bool false]) 85 (0, 0)) := by
      rw [hjb, ← alloc_size w1 (.cells (RW.byl RW.z32).toArray 5)]
      exact alloc_at1 _ _
    have hlt := hlt1.out
    refine ⟨heap_setCell_same _ _ _ _ _ _ (alloc_old _ _ (alloc_old _ _ hx1)), (Below.heap_setCell _ _ _ _ (show B + 1 ≠ B by omega)).trans (alloc_old _ _ (alloc_old _ _ hy1)), (Below.heap_setCell _ _ _ _ (show jb ≠ B by omega)).trans hj, ?_, ?_⟩
    · exact (alloc_bel (alloc_bel hB1 (Nat.le_of_eq hBH.out) _) (Nat.le_of_eq hBH.out) _).setCell (p := ⟨B, 0, none⟩) (Nat.le_refl _) _
    · have h5 := (Array.getElem?_eq_some_iff.1 hj).1
      simpa using Nat.le_of_lt h5)
  have hjbl := hide (show B + 1 < jb by have := hlt1.out; omega)
  have hjbH := hide hjb
  clear hx1 hy1 hB1 hjb
  go_upto_region 3 with fail
  rw [← hjbH.out]
  refine gen_w (fun W => W.heap[B]? = some (.cells #[.pointer (some ⟨jb, 0, none⟩)] 28 (0, 0)) ∧ W.heap[B + 1]? = some (.cells #[.int .i64 0] 33 (0, 0)) ∧ W.heap[jb]? = some (.cells (tpc (.slice none 0 0) (RW.strOf RW.z32) 0 [.pointer (some ⟨d, 0, none⟩), .bool false]) 85 (0, 0)) ∧ Below B w W ∧ jb ≤ W.heap.size) (h3.out _ rfl) ?_
  clear h3 hcv c0 f0 hmk hjbH hlt1 hg
  rintro w3 ⟨hx3, hy3, hj3, hB3, hs3⟩
  have c3 : w3.cell? ⟨B, 0, none⟩ = some (.pointer (some ⟨jb, 0, none⟩)) := cellAt hx3 0
  have hL := hide (load_any jb jb [.pointer (some ⟨d, 0, none⟩), .bool false] 85 (by decide) s hs a K ks hks w3 (hKW.out w3 hB3).1 (hKW.out w3 hB3).2 hs3 (Nat.le_refl _) (by have h1 := hglH.out; have h2 := hjbl.out; omega) (by have h1 := hklH.out; have h2 := hjbl.out; omega) hj3)
  have hgW := hide (fun W (hW : Below jb w3 W) => (hKW.out W (hB3.trans (hW.mono (by have := hjbl.out; omega)))).2)
  have hxW := hide (fun W (hW : Below jb w3 W) => (show W.heap[B]? = some (.cells #[.pointer (some ⟨jb, 0, none⟩)] 28 (0, 0)) ∧ W.heap[B + 1]? = some (.cells #[.int .i64 0] 33 (0, 0)) ∧ Below B w W from ⟨(hW.block _ (by have := hjbl.out; omega)).trans hx3, (hW.block _ hjbl.out).trans hy3, hB3.trans (hW.mono (by have := hjbl.out; omega))⟩))
  clear hx3 hy3 hj3 hB3 hs3 hKW hglH hklH
  rcases hG : RW.ldL (RW.sha K) RW.z32 s.data.toList with _ | ⟨qs, m⟩
  · have hL2 := hide (hL.out.mono (fun e w' hh => (show Below jb w3 w' ∧ e = .panicked [{ v := RW.jeW a, recovered := false }] from by
      obtain ⟨h1, h2⟩ := hh
      rcases h2 with ⟨_, h2⟩ | ⟨qs, m, rv, h2, _⟩
      · exact ⟨h1, h2⟩
      · rw [hG] at h2; cases h2)))
    have hGH := hide hG
    clear hL hG
    go_wp2_with (go_at_call 95; refine hL2.out.mono ?_; rintro e w4 ⟨hB4, rfl⟩)
    obtain ⟨hx4, hy4, hB4'⟩ := hxW.out w4 hB4
    refine leaves_cons (f := 94) (args := #[.pointer (some ⟨B, 0, none⟩), .pointer (some ⟨B + 1, 0, none⟩)]) (by simp) (by simp [go_sem]) ?_
    refine (jcatch_panicking B a _ 0 _ (hgW.out w4 hB4) hx4 hy4).mono ?_
    rintro e u' w9 ⟨rfl, rfl, hx9, hy9, hB9⟩
    exact ⟨_, open_results _ _ B _ _ rfl rfl hx9 hy9, hB4'.trans hB9, .inl ⟨hGH.out, rfl⟩⟩
  · obtain ⟨g1, g2, g3, g4, g5⟩ := RW.ldL_sound' (RW.sha K) (RW.sha_len K) hG
    have hL2 := hide (hL.out.mono (fun e w' hh => (show Below jb w3 w' ∧ e = .returned (.tuple #[]) ∧ ∃ rv, TA w' w3 jb jb (.slice none 0 0) rv (RW.strOf (RW.hds (RW.sha K) RW.z32 qs)) m [.pointer (some ⟨d, 0, none⟩), .bool false] 85 qs from by
      obtain ⟨h1, h2⟩ := hh
      rcases h2 with ⟨h2, _⟩ | ⟨qs', m', rv, h2, h3, h4⟩
      · rw [hG] at h2; cases h2
      · rw [hG] at h2
        cases h2
        exact ⟨h1, h3, rv, h4⟩)))
    have hGH := hide hG
    clear hL hG
    go_upto_region 4 with (go_at_call 95; refine hL2.out.mono ?_; rintro e w4 ⟨hB4, rfl, rv, hT4⟩; have hT4H := hide hT4; have hB4H := hide hB4; clear hB4 hT4)
    have hx4 := (hxW.out w4 hB4H.out).1
    have hy4 := (hxW.out w4 hB4H.out).2.1
    have c4 : w4.cell? ⟨B, 0, none⟩ = some (.pointer (some ⟨jb, 0, none⟩)) := cellAt hx4 0
    have f4 : w4.frozen? ⟨B, 0, none⟩ = false := unfrozen hx4
    have c5 : ∀ v, (w4.setCell ⟨B, 0, none⟩ v).cell? ⟨B + 1, 0, none⟩ = some (.int .i64 0) := fun v => cellAt ((Below.heap_setCell _ _ _ _ (show B + 1 ≠ B by omega)).trans hy4) 0
    have f5 : ∀ v, (w4.setCell ⟨B, 0, none⟩ v).frozen? ⟨B + 1, 0, none⟩ = false := fun v => unfrozen ((Below.heap_setCell _ _ _ _ (show B + 1 ≠ B by omega)).trans hy4)
    have hx4H := hide hx4
    have hy4H := hide hy4
    clear c3 hx4 hy4
    go_wp2_with fail
    have h9 : ∀ W9, W9 = (w4.setCell ⟨B, 0, none⟩ (.pointer (some ⟨jb, 0, none⟩))).setCell ⟨B + 1, 0, none⟩ (.int .i64 0) → W9.heap[B]? = some (.cells #[.pointer (some ⟨jb, 0, none⟩)] 28 (0, 0)) ∧ W9.heap[B + 1]? = some (.cells #[.int .i64 0] 33 (0, 0)) ∧ Below B w W9 ∧ JrAt (RW.sha K) W9 B jb d rv qs false := by
      rintro W9 rfl
      have hne := hjbl.out
      have hT := hT4H.out
      refine ⟨(Below.heap_setCell _ _ _ _ (show B ≠ B + 1 by omega)).trans (heap_setCell_same _ _ _ _ _ _ hx4H.out), heap_setCell_same _ _ _ _ _ _ ((Below.heap_setCell _ _ _ _ (show B + 1 ≠ B by omega)).trans hy4H.out), ((hxW.out w4 hB4H.out).2.2.setCell (p := ⟨B, 0, none⟩) (Nat.le_refl _) _).setCell (p := ⟨B + 1, 0, none⟩) (by show B ≤ B + 1; omega) _, ?_, own_mono (own_keep hT.own fun k hk => (Below.heap_setCell _ _ _ _ ?_).trans (Below.heap_setCell _ _ _ _ ?_)) (by omega), by omega⟩
      · rw [g3]
        exact (Below.heap_setCell _ _ _ _ (show jb ≠ B + 1 by omega)).trans ((Below.heap_setCell _ _ _ _ (show jb ≠ B by omega)).trans hT.b)
      · have := (own_blk hT.own hk).1
        show k ≠ B + 1
        omega
      · have := (own_blk hT.own hk).1
        show k ≠ B
        omega
    refine leaves_cons (f := 94) (args := #[.pointer (some ⟨B, 0, none⟩), .pointer (some ⟨B + 1, 0, none⟩)]) (by simp) (by simp [go_sem]) ?_
    refine ((jcatch_idle B _).mono (R' := fun e u' W => e = .returned (.tuple #[]) ∧ u' = .returning ∧ _ = W) (fun _ _ _ h => ⟨h.1, h.2.1, h.2.2.symm⟩)).mono ?_
    rintro e u' w9 ⟨rfl, rfl, rfl⟩
    obtain ⟨q1, q2, q3, q4⟩ := h9 _ rfl
    exact ⟨_, open_results _ _ B _ _ rfl rfl q1 q2, q3, .inr ⟨qs, m, jb, rv, hGH.out, rfl, q4⟩⟩
end Go.Proofs.YtllbphanfahkkaaGreatDoor

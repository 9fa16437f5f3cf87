/-
  Package fact: ID and Prevails: what they return; only new memory is written.
-/
import Derived.Test.YtnlphbfjeekooaaGreatDoorFact7
import Derived.Test.YtnlphbfjeekooaaGreatDoorMS
namespace Go.Proofs.YtnlphbfjeekooaaGreatDoor
open Go.RowKit
namespace RW
/-- what ID gives -/
noncomputable def idR (K : Nat → Int) (f : Nat → Int) (s : ByteArray) : Value := match validB f s.size with
  | true => .tuple #[.string ⟨(sha K (encL f s.data.toList)).toArray⟩, .int .i64 0]
  | false => .tuple #[.string ⟨#[]⟩, .int .i64 50]
theorem idR_yes (K : Nat → Int) (f : Nat → Int) (s : ByteArray) (h : validB f s.size = true) : idR K f s = .tuple #[.string ⟨(sha K (encL f s.data.toList)).toArray⟩, .int .i64 0] := by unfold idR; rw [h]
theorem idR_no (K : Nat → Int) (f : Nat → Int) (s : ByteArray) (h : validB f s.size = false) : idR K f s = .tuple #[.string ⟨#[]⟩, .int .i64 50] := by unfold idR; rw [h]
theorem encL_len (f : Nat → Int) (s : List UInt8) : (encL f s).length ≤ 180 + s.length := by
  unfold encL
  have h1 := encTo_len f 17
  have h2 := putI_len s.length
  have h3 : (putS s).length = (putI s.length).length + s.length := by unfold putS; simp
  rw [List.length_append]; omega
theorem klaid {w w' : World} {ks : Array Value} (h : KLaid w ks) (hB : Below w.heap.size w w') : KLaid w' ks := by
  obtain ⟨t, fr, h⟩ := h
  exact ⟨t, fr, (hB.block _ (Array.getElem?_eq_some_iff.1 h).1).trans h⟩
end RW
theorem sum_any (s : ByteArray) (hs : s.size ≤ 1099511627776) (K : Nat → Int) (ks : Array Value) (hks : RW.WsOk ks K) (w : World) (hK : KLaid w ks) :
    Calls Tryz.prog 58 #[.string s] w fun e w' => e = .returned (.string ⟨(RW.sha K s.data.toList).toArray⟩) ∧ Below w.heap.size w w' :=
  callsIn_wide.1 (sum_in Fence.wide (show Fence.wide = Fence.wide from rfl) 3 trivial trivial rfl (by omega) s hs K ks hks w hK)
set_option maxRecDepth 100000 in
set_option maxHeartbeats 2000000 in
theorem id_fact (f : Nat → Int) (s : ByteArray) (K : Nat → Int) (ks : Array Value) (hks : RW.WsOk ks K) (w : World) (hK : KLaid w ks) :
    Calls Tryz.prog 38 #[.agg (RW.fcells f s)] w fun e w' => e = .returned (RW.idR K f s) ∧ Below w.heap.size w w' := by
  have hV := fun W => encode_any f s W
  have hi1 : (Tryz.prog.info? 38).map (·.size) = some (RW.fcells f s).size := by kernel_rfl
  obtain ⟨cs, hcs⟩ : ∃ cs, cs = RW.fcells f s := ⟨_, rfl⟩
  rw [← hcs] at hV hi1 ⊢
  obtain ⟨w1, hw1⟩ : ∃ w1, w1 = w.alloc (.cells cs 38) := ⟨_, rfl⟩
  have hH1 : w1.heap[w.heap.size]? = some (.cells cs 38 (0, 0)) := hw1 ▸ heap_alloc_new w _
  have hB1 : Below w.heap.size w w1 := hw1 ▸ (Below.refl _ _).alloc (Nat.le_refl _) _
  have hlt : w.heap.size < w1.heap.size := (Array.getElem?_eq_some_iff.1 hH1).1
  have hw1' := hide hw1
  have hVH := hide hV
  clear hcs hw1 hV
  have hK1 := RW.klaid hK hB1
  cases hv : RW.validB f s.size
  · rw [RW.idR_no _ _ _ hv]
    have e1 := hide (RW.encR_no f s hv)
    go_enter Tryz.func38, Tryz.ntmps38
    go_upto_region 1 with fail
    rw [← hw1'.out]
    go_wp2_with (first | (refine wpList_load_row rfl 38 (.tmp 1) rfl w.heap.size rfl 38 cs (0, 0) _ hH1 Tryz.underlying38 rfl hi1 ?_))
    refine (hVH.out _).mono ?_
    rintro e w2 ⟨rfl, hB2⟩
    rw [e1.out]
    go_wp2
    go_ret2
    exact ⟨rfl, hB1.trans (hB2.mono (by omega))⟩
  · rw [RW.idR_yes _ _ _ hv]
    have e1 := hide (RW.encR_yes f s hv)
    obtain ⟨hn, _⟩ := RW.valid_lims f s.size hv
    have hl := RW.encL_len f s.data.toList
    have hsz : (⟨(RW.encL f s.data.toList).toArray⟩ : ByteArray).size ≤ 1099511627776 := by
      show (RW.encL f s.data.toList).toArray.size ≤ _
      simp only [List.size_toArray]
      have h9 : s.data.toList.length = s.size := by rw [Array.length_toList]; rfl
      omega
    go_enter Tryz.func38, Tryz.ntmps38
    go_upto_region 1 with fail
    rw [← hw1'.out]
    go_wp2_with (first | (refine wpList_load_row rfl 38 (.tmp 1) rfl w.heap.size rfl 38 cs (0, 0) _ hH1 Tryz.underlying38 rfl hi1 ?_))
    refine (hVH.out _).mono ?_
    rintro e w2 ⟨rfl, hB2⟩
    rw [e1.out]
    have hK2 := RW.klaid hK1 hB2
    go_wp2_with fail
    refine (sum_any _ hsz K ks hks _ hK2).mono ?_
    rintro e w3 ⟨rfl, hB3⟩
    go_wp2
    go_ret2
    exact ⟨rfl, hB1.trans ((hB2.mono (by omega)).trans (hB3.mono (by have := hB2.size; omega)))⟩
namespace RW
/-- whether a fact prevails over another one -/
noncomputable def prevB (f g : Nat → Int) (s u : ByteArray) : Bool :=
  dec (validB f s.size = true ∧ validB g u.size = true ∧ (f 0 = g 0 ∧ (keyV f).1 = (keyV g).1 ∧ (keyV f).2 = (keyV g).2) ∧
    (g 2 < f 2 ∨ f 2 = g 2 ∧ 0 < Lib.compareBytes (encL f s.data.toList) (encL g u.data.toList)))
end RW
theorem ldRow_fact (x : Value) : Instr.loadAt 38 x = ldRow 38 x := rfl
theorem ldRow_eq {P : Program} (w : World) (g : Nat) (t ty : TypeId) (cs : Array Value) (fr : Nat × Nat) (d : TypeDesc) (hg : w.heap[g]? = some (.cells cs t fr))
    (hu : P.underlying ty = some d) (hd : (match d with | .struct _ | .array _ _ => true | _ => false) = true) (hi : (P.info? ty).map (·.size) = some cs.size) :
    (ldRow ty (.pointer (some ⟨g, 0, none⟩))).run P w = .ok (.agg cs) w := rowLoad_eq w g t ty cs fr d hg hu hd hi
attribute [local go_sem ↓] ldRow_fact
end Go.Proofs.YtnlphbfjeekooaaGreatDoor

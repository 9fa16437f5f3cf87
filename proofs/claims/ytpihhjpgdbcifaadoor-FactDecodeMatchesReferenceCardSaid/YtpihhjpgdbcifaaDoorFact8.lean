/-
  Package fact: ID and Prevails: what they return; only new memory is written.
-/
import Derived.Test.YtpihhjpgdbcifaaDoorFact7
namespace Go.Proofs.YtpihhjpgdbcifaaDoor
open Go.RowKit
namespace RW
/-- what ID gives -/
noncomputable def idR (K : Nat → Int) (f : Nat → Int) (s : ByteArray) : Value := match validB f s.size with
  | true => .tuple #[.string ⟨(sha K (encL f s.data.toList)).toArray⟩, .int .i64 0]
  | false => .tuple #[.string ⟨#[]⟩, .int .i64 50]
theorem idR_yes (K : Nat → Int) (f : Nat → Int) (s : ByteArray) (h : validB f s.size = true) : idR K f s = .tuple #[.string ⟨(sha K (encL f s.data.toList)).toArray⟩, .int .i64 0] := by unfold idR; rw [h]
theorem idR_no (K : Nat → Int) (f : Nat → Int) (s : ByteArray) (h : validB f s.size = false) : idR K f s = .tuple #[.string ⟨#[]⟩, .int .i64 50] := by unfold idR; rw [h]
theorem encL_len (f : Nat → Int) (s : List UInt8) : (encL f s).length ≤ 180 + s.length := by
  unfold encL
  have h1 := encTo_len f 17
  have h2 := putI_len s.length
  have h3 : (putS s).length = (putI s.length).length + s.length := by unfold putS; simp
  rw [List.length_append]; omega
theorem klaid {w w' : World} {ks : Array Value} (h : KLaid w ks) (hB : Below w.heap.size w w') : KLaid w' ks := by
  obtain ⟨t, fr, h⟩ := h
  exact ⟨t, fr, (hB.block _ (Array.getElem?_eq_some_iff.1 h).1).trans h⟩
end RW
theorem sum_any (s : ByteArray) (hs : s.size ≤ 1099511627776) (K : Nat → Int) (ks : Array Value) (hks : RW.WsOk ks K) (w : World) (hK : KLaid w ks) :
    Calls Tryd.prog 40 #[.string s] w fun e w' => e = .returned (.string ⟨(RW.sha K s.data.toList).toArray⟩) ∧ Below w.heap.size w w' :=
  callsIn_wide.1 (sum_in Fence.wide (show Fence.wide = Fence.wide from rfl) 3 trivial trivial rfl (by omega) s hs K ks hks w hK)
set_option maxRecDepth 100000 in
set_option maxHeartbeats 2000000 in
theorem id_fact (f : Nat → Int) (s : ByteArray) (K : Nat → Int) (ks : Array Value) (hks : RW.WsOk ks K) (w : World) (hK : KLaid w ks) :
    Calls Tryd.prog 23 #[.agg (RW.fcells f s)] w fun e w' => e = .returned (RW.idR K f s) ∧ Below w.heap.size w w' := by
  have hV := fun W => encode_any f s W
  have hi1 : (Tryd.prog.info? 23).map (·.size) = some (RW.fcells f s).size := by kernel_rfl
  obtain ⟨cs, hcs⟩ : ∃ cs, cs = RW.fcells f s := ⟨_, rfl⟩
  rw [← hcs] at hV hi1 ⊢
  obtain ⟨w1, hw1⟩ : ∃ w1, w1 = w.alloc (.cells cs 23) := ⟨_, rfl⟩
  have hH1 : w1.heap[w.heap.size]? = some (.cells cs 23 (0, 0)) := hw1 ▸ heap_alloc_new w _
  have hB1 : Below w.heap.size w w1 := hw1 ▸ (Below.refl _ _).alloc (Nat.le_refl _) _
  have hlt : w.heap.size < w1.heap.size := (Array.getElem?_eq_some_iff.1 hH1).1
  have hw1' := hide hw1
  have hVH := hide hV
  clear hcs hw1 hV
  have hK1 := RW.klaid hK hB1
  cases hv : RW.validB f s.size
  · rw [RW.idR_no _ _ _ hv]
    have e1 := hide (RW.encR_no f s hv)
    go_enter Tryd.func23, Tryd.ntmps23
    go_upto_region 1 with fail
    rw [← hw1'.out]
    go_wp2_with (first | (refine wpList_load_row rfl 23 (.tmp 1) rfl w.heap.size rfl 23 cs (0, 0) _ hH1 Tryd.underlying23 rfl hi1 ?_))
    refine (hVH.out _).mono ?_
    rintro e w2 ⟨rfl, hB2⟩
    rw [e1.out]
    go_wp2
    go_ret2
    exact ⟨rfl, hB1.trans (hB2.mono (by omega))⟩
  · rw [RW.idR_yes _ _ _ hv]
    have e1 := hide (RW.encR_yes f s hv)
    obtain ⟨hn, _⟩ := RW.valid_lims f s.size hv
    have hl := RW.encL_len f s.data.toList
    have hsz : (⟨(RW.encL f s.data.toList).toArray⟩ : ByteArray).size ≤ 1099511627776 := by
      show (RW.encL f s.data.toList).toArray.size ≤ _
      simp only [List.size_toArray]
      have h9 : s.data.toList.length = s.size := by rw [Array.length_toList]; rfl
      omega
    go_enter Tryd.func23, Tryd.ntmps23
    go_upto_region 1 with fail
    rw [← hw1'.out]
    go_wp2_with (first | (refine wpList_load_row rfl 23 (.tmp 1) rfl w.heap.size rfl 23 cs (0, 0) _ hH1 Tryd.underlying23 rfl hi1 ?_))
    refine (hVH.out _).mono ?_
    rintro e w2 ⟨rfl, hB2⟩
    rw [e1.out]
    have hK2 := RW.klaid hK1 hB2
    go_wp2_with fail
    refine (sum_any _ hsz K ks hks _ hK2).mono ?_
    rintro e w3 ⟨rfl, hB3⟩
    go_wp2
    go_ret2
    exact ⟨rfl, hB1.trans ((hB2.mono (by omega)).trans (hB3.mono (by have := hB2.size; omega)))⟩
theorem neq_key (a b c a' b' c' : Int) (W : World) : (binOp .neq 28 (.agg #[.int .i64 a, .int .i64 b, .int .i64 c]) (.agg #[.int .i64 a', .int .i64 b', .int .i64 c'])).run Tryd.prog W = .ok (.bool (!RW.dec (a = a' ∧ b = b' ∧ c = c'))) W := by
  have hr5 : (Tryd.prog.info? 3).map (·.size) = some 1 := by kernel_rfl
  obtain ⟨inf, hq, h2⟩ := Option.map_eq_some_iff.1 hr5
  have hp : ∀ (X : Array Value) (i : Nat) (v : Value), X[i]? = some v → (part 3 X i).run Tryd.prog W = .ok v W := fun X i v h => by
    simp [part, isAgg, run_underlying Tryd.underlying3, h]
  have hz : (sizeOf 3).run Tryd.prog W = .ok 1 W := by simp [sizeOf, typeInfo, hq, h2]
  rw [run_neq_struct]
  have h : (Op.equalIn (9999 + 1) 28 (.agg #[.int .i64 a, .int .i64 b, .int .i64 c]) (.agg #[.int .i64 a', .int .i64 b', .int .i64 c'])).run Tryd.prog W = .ok (RW.dec (a = a' ∧ b = b' ∧ c = c')) W := by
    unfold Op.equalIn
    simp only [Sem.run_bind, run_underlying Tryd.underlying28, Result.andThen_ok, hz, Std.Legacy.Range.forIn_eq_forIn_range', Std.Legacy.Range.size]
    rw [show List.range' 0 ((3 - 0 + 1 - 1) / 1) = [0, 1, 2] from rfl]
    have e : ∀ x y : Int, (Op.equalIn 9999 3 (.int .i64 x) (.int .i64 y)).run Tryd.prog W = .ok (x == y) W := fun x y => run_equalIn_int W 9998 3 .i64 .i64 x y Tryd.underlying3
    by_cases ha : a = a'
    · subst ha
      by_cases hb : b = b'
      · subst hb
        by_cases hc : c = c'
        · subst hc
          rw [RW.dec_true ⟨rfl, rfl, rfl⟩]
          have x0 := hp #[.int .i64 a, .int .i64 b, .int .i64 c] 0 _ rfl
          have x1 := hp #[.int .i64 a, .int .i64 b, .int .i64 c] 1 _ rfl
          have x2 := hp #[.int .i64 a, .int .i64 b, .int .i64 c] 2 _ rfl
          have y0 := hp #[.int .i64 a, .int .i64 b, .int .i64 c] 0 _ rfl
          have y1 := hp #[.int .i64 a, .int .i64 b, .int .i64 c] 1 _ rfl
          have y2 := hp #[.int .i64 a, .int .i64 b, .int .i64 c] 2 _ rfl
          simp [List.forIn_cons, x0, x1, x2, e]
        · rw [RW.dec_false (fun h => hc h.2.2)]
          have x0 := hp #[.int .i64 a, .int .i64 b, .int .i64 c] 0 _ rfl
          have x1 := hp #[.int .i64 a, .int .i64 b, .int .i64 c] 1 _ rfl
          have x2 := hp #[.int .i64 a, .int .i64 b, .int .i64 c] 2 _ rfl
          have y0 := hp #[.int .i64 a, .int .i64 b, .int .i64 c'] 0 _ rfl
          have y1 := hp #[.int .i64 a, .int .i64 b, .int .i64 c'] 1 _ rfl
          have y2 := hp #[.int .i64 a, .int .i64 b, .int .i64 c'] 2 _ rfl
          simp [List.forIn_cons, x0, x1, x2, y0, y1, y2, e, hc]
      · rw [RW.dec_false (fun h => hb h.2.1)]
        have x0 := hp #[.int .i64 a, .int .i64 b, .int .i64 c] 0 _ rfl
        have x1 := hp #[.int .i64 a, .int .i64 b, .int .i64 c] 1 _ rfl
        have y0 := hp #[.int .i64 a, .int .i64 b', .int .i64 c'] 0 _ rfl
        have y1 := hp #[.int .i64 a, .int .i64 b', .int .i64 c'] 1 _ rfl
        simp [List.forIn_cons, x0, x1, y0, y1, e, hb]
    · rw [RW.dec_false (fun h => ha h.1)]
      have x0 := hp #[.int .i64 a, .int .i64 b, .int .i64 c] 0 _ rfl
      have y0 := hp #[.int .i64 a', .int .i64 b', .int .i64 c'] 0 _ rfl
      simp [List.forIn_cons, x0, y0, e, ha]
  rw [show (10000 : Nat) = 9999 + 1 from rfl, h]
  rfl
namespace RW
/-- whether a fact prevails over another one -/
noncomputable def prevB (f g : Nat → Int) (s u : ByteArray) : Bool :=
  dec (validB f s.size = true ∧ validB g u.size = true ∧ (f 0 = g 0 ∧ (keyV f).1 = (keyV g).1 ∧ (keyV f).2 = (keyV g).2) ∧
    (g 2 < f 2 ∨ f 2 = g 2 ∧ 0 < Lib.compareBytes (encL f s.data.toList) (encL g u.data.toList)))
end RW
set_option maxRecDepth 100000 in
set_option maxHeartbeats 4000000 in
theorem prev_no1 (f g : Nat → Int) (s u : ByteArray) (w : World) (h1 : RW.validB f s.size = false) :
    Calls Tryd.prog 19 #[.agg (RW.fcells f s), .agg (RW.fcells g u)] w fun e w' => e = .returned (.bool false) ∧ Below w.heap.size w w' := by
  have hi1 : (Tryd.prog.info? 23).map (·.size) = some (RW.fcells f s).size := by kernel_rfl
  have hi2 : (Tryd.prog.info? 23).map (·.size) = some (RW.fcells g u).size := by kernel_rfl
  have hEf := fun W => encode_any f s W
  have hEg := fun W => encode_any g u W
  have hKf := fun W => key_any f s W
  have hKg := fun W => key_any g u W
  obtain ⟨cs, hcs⟩ : ∃ cs, cs = RW.fcells f s := ⟨_, rfl⟩
  obtain ⟨ds, hds⟩ : ∃ ds, ds = RW.fcells g u := ⟨_, rfl⟩
  rw [← hcs] at hi1 hEf hKf ⊢
  rw [← hds] at hi2 hEg hKg ⊢
  obtain ⟨w1, hw1⟩ : ∃ w1, w1 = (w.alloc (.cells cs 23)).alloc (.cells ds 23) := ⟨_, rfl⟩
  have hA1 : w1.heap[w.heap.size]? = some (.cells cs 23 (0, 0)) := hw1 ▸ (Below.heap_alloc _ _ _ (by simp)).trans (heap_alloc_new w _)
  have hC1 : w1.heap[w.heap.size + 1]? = some (.cells ds 23 (0, 0)) := hw1 ▸ heap_new_at (by simp)
  have hB1 : Below w.heap.size w w1 := hw1 ▸ ((Below.refl _ _).alloc (Nat.le_refl _) _).alloc (by simp) _
  have hz1 : w1.heap.size = w.heap.size + 2 := hw1 ▸ (by simp)
  have hcs' := hide hcs; have hds' := hide hds
  have hw1' := hide hw1; have hz1' := hide hz1
  have hEfH := hide hEf; have hEgH := hide hEg; have hKfH := hide hKf; have hKgH := hide hKg
  clear hcs hds hw1 hz1 hEf hEg hKf hKg
  have e1 := hide (RW.encR_no f s h1)
  obtain ⟨vg, hvg⟩ : ∃ v : Int, ∃ S : ByteArray, RW.encR g u = .tuple #[.string S, .int .i64 v] := by
    cases h : RW.validB g u.size
    · exact ⟨50, _, RW.encR_no _ _ h⟩
    · exact ⟨0, _, RW.encR_yes _ _ h⟩
  obtain ⟨Sg, hvg⟩ := hvg
  have e2 := hide hvg
  clear hvg h1
  go_enter Tryd.func19, Tryd.ntmps19
  go_upto_region 1 with fail
  rw [← hw1'.out]
  go_wp2_with (first | (refine wpList_load_row rfl 23 (.tmp 2) rfl w.heap.size rfl 23 cs (0, 0) _ hA1 Tryd.underlying23 rfl hi1 ?_))
  refine (hEfH.out _).mono ?_
  rintro e w2 ⟨rfl, hB2⟩
  rw [e1.out]
  have hC2 := (hB2.block _ (by have := hz1'.out; omega)).trans hC1
  go_wp2_with (first | (refine wpList_load_row rfl 23 (.tmp 3) rfl (w.heap.size + 1) rfl 23 ds (0, 0) _ hC2 Tryd.underlying23 rfl hi2 ?_))
  refine (hEgH.out _).mono ?_
  rintro e w3 ⟨rfl, hB3⟩
  rw [e2.out]
  go_wp2
  go_ret
  exact ⟨rfl, hB1.trans ((hB2.mono (by have := hz1'.out; omega)).trans (hB3.mono (by have := hz1'.out; have := hB2.size; omega)))⟩
set_option maxRecDepth 100000 in
set_option maxHeartbeats 4000000 in
theorem prev_no2 (f g : Nat → Int) (s u : ByteArray) (w : World) (h1 : RW.validB f s.size = true) (h2 : RW.validB g u.size = false) :
    Calls Tryd.prog 19 #[.agg (RW.fcells f s), .agg (RW.fcells g u)] w fun e w' => e = .returned (.bool false) ∧ Below w.heap.size w w' := by
  have hi1 : (Tryd.prog.info? 23).map (·.size) = some (RW.fcells f s).size := by kernel_rfl
  have hi2 : (Tryd.prog.info? 23).map (·.size) = some (RW.fcells g u).size := by kernel_rfl
  have hEf := fun W => encode_any f s W
  have hEg := fun W => encode_any g u W
  have hKf := fun W => key_any f s W
  have hKg := fun W => key_any g u W
  obtain ⟨cs, hcs⟩ : ∃ cs, cs = RW.fcells f s := ⟨_, rfl⟩
  obtain ⟨ds, hds⟩ : ∃ ds, ds = RW.fcells g u := ⟨_, rfl⟩
  rw [← hcs] at hi1 hEf hKf ⊢
  rw [← hds] at hi2 hEg hKg ⊢
  obtain ⟨w1, hw1⟩ : ∃ w1, w1 = (w.alloc (.cells cs 23)).alloc (.cells ds 23) := ⟨_, rfl⟩
  have hA1 : w1.heap[w.heap.size]? = some (.cells cs 23 (0, 0)) := hw1 ▸ (Below.heap_alloc _ _ _ (by simp)).trans (heap_alloc_new w _)
  have hC1 : w1.heap[w.heap.size + 1]? = some (.cells ds 23 (0, 0)) := hw1 ▸ heap_new_at (by simp)
  have hB1 : Below w.heap.size w w1 := hw1 ▸ ((Below.refl _ _).alloc (Nat.le_refl _) _).alloc (by simp) _
  have hz1 : w1.heap.size = w.heap.size + 2 := hw1 ▸ (by simp)
  have hcs' := hide hcs; have hds' := hide hds
  have hw1' := hide hw1; have hz1' := hide hz1
  have hEfH := hide hEf; have hEgH := hide hEg; have hKfH := hide hKf; have hKgH := hide hKg
  clear hcs hds hw1 hz1 hEf hEg hKf hKg
  have e1 := hide (RW.encR_yes f s h1)
  have e2 := hide (RW.encR_no g u h2)
  clear h1 h2
  go_enter Tryd.func19, Tryd.ntmps19
  go_upto_region 1 with fail
  rw [← hw1'.out]
  go_wp2_with (first | (refine wpList_load_row rfl 23 (.tmp 2) rfl w.heap.size rfl 23 cs (0, 0) _ hA1 Tryd.underlying23 rfl hi1 ?_))
  refine (hEfH.out _).mono ?_
  rintro e w2 ⟨rfl, hB2⟩
  rw [e1.out]
  have hC2 := (hB2.block _ (by have := hz1'.out; omega)).trans hC1
  go_wp2_with (first | (refine wpList_load_row rfl 23 (.tmp 3) rfl (w.heap.size + 1) rfl 23 ds (0, 0) _ hC2 Tryd.underlying23 rfl hi2 ?_))
  refine (hEgH.out _).mono ?_
  rintro e w3 ⟨rfl, hB3⟩
  rw [e2.out]
  go_wp2
  go_ret
  exact ⟨rfl, hB1.trans ((hB2.mono (by have := hz1'.out; omega)).trans (hB3.mono (by have := hz1'.out; have := hB2.size; omega)))⟩
/-- a load, under a name that the walk does not open -/
def ldRow (T : TypeId) (x : Value) : Sem Value := Instr.loadAt T x
theorem ldRow_fact (x : Value) : Instr.loadAt 23 x = ldRow 23 x := rfl
theorem ldRow_eq {P : Program} (w : World) (g : Nat) (t ty : TypeId) (cs : Array Value) (fr : Nat × Nat) (d : TypeDesc) (hg : w.heap[g]? = some (.cells cs t fr))
    (hu : P.underlying ty = some d) (hd : (match d with | .struct _ | .array _ _ => true | _ => false) = true) (hi : (P.info? ty).map (·.size) = some cs.size) :
    (ldRow ty (.pointer (some ⟨g, 0, none⟩))).run P w = .ok (.agg cs) w := rowLoad_eq w g t ty cs fr d hg hu hd hi
attribute [local go_sem ↓] ldRow_fact
set_option maxRecDepth 100000 in
set_option maxHeartbeats 4000000 in
theorem prev_both (f g : Nat → Int) (s u : ByteArray) (w : World) (h1 : RW.validB f s.size = true) (h2 : RW.validB g u.size = true) :
    Calls Tryd.prog 19 #[.agg (RW.fcells f s), .agg (RW.fcells g u)] w fun e w' => e = .returned (.bool (RW.prevB f g s u)) ∧ Below w.heap.size w w' := by
  have hi1 : (Tryd.prog.info? 23).map (·.size) = some (RW.fcells f s).size := by kernel_rfl
  have hi2 : (Tryd.prog.info? 23).map (·.size) = some (RW.fcells g u).size := by kernel_rfl
  have hEf := fun W => encode_any f s W
  have hEg := fun W => encode_any g u W
  have hKf := fun W => key_any f s W
  have hKg := fun W => key_any g u W
  obtain ⟨cs, hcs⟩ : ∃ cs, cs = RW.fcells f s := ⟨_, rfl⟩
  obtain ⟨ds, hds⟩ : ∃ ds, ds = RW.fcells g u := ⟨_, rfl⟩
  rw [← hcs] at hi1 hEf hKf ⊢
  rw [← hds] at hi2 hEg hKg ⊢
  obtain ⟨w1, hw1⟩ : ∃ w1, w1 = (w.alloc (.cells cs 23)).alloc (.cells ds 23) := ⟨_, rfl⟩
  have hA1 : w1.heap[w.heap.size]? = some (.cells cs 23 (0, 0)) := hw1 ▸ (Below.heap_alloc _ _ _ (by simp)).trans (heap_alloc_new w _)
  have hC1 : w1.heap[w.heap.size + 1]? = some (.cells ds 23 (0, 0)) := hw1 ▸ heap_new_at (by simp)
  have hB1 : Below w.heap.size w w1 := hw1 ▸ ((Below.refl _ _).alloc (Nat.le_refl _) _).alloc (by simp) _
  have hz1 : w1.heap.size = w.heap.size + 2 := hw1 ▸ (by simp)
  have hcs' := hide hcs; have hds' := hide hds
  have hw1' := hide hw1; have hz1' := hide hz1
  have hEfH := hide hEf; have hEgH := hide hEg; have hKfH := hide hKf; have hKgH := hide hKg
  clear hcs hds hw1 hz1 hEf hEg hKf hKg
  have e1 := hide (RW.encR_yes f s h1)
  have e2 := hide (RW.encR_yes g u h2)
  have v1 := hide h1
  have v2 := hide h2
  have hNK := neq_key (f 0) (RW.keyV f).1 (RW.keyV f).2 (g 0) (RW.keyV g).1 (RW.keyV g).2
  obtain ⟨kq, hkq⟩ : ∃ kq, kq = RW.dec (f 0 = g 0 ∧ (RW.keyV f).1 = (RW.keyV g).1 ∧ (RW.keyV f).2 = (RW.keyV g).2) := ⟨_, rfl⟩
  rw [← hkq] at hNK
  have hkH := hide hkq
  clear h1 h2 hkq
  go_enter Tryd.func19, Tryd.ntmps19
  go_upto_region 1 with fail
  rw [← hw1'.out]
  have hL1 := ldRow_eq w1 w.heap.size _ 23 cs _ _ hA1 Tryd.underlying23 rfl hi1
  go_wp2_with fail
  refine (hEfH.out _).mono ?_
  rintro e w2 ⟨rfl, hB2⟩
  rw [e1.out]
  have hC2 := (hB2.block _ (by have := hz1'.out; omega)).trans hC1
  have hA2 := (hB2.block _ (by have := hz1'.out; omega)).trans hA1
  have hL2 := ldRow_eq w2 (w.heap.size + 1) _ 23 ds _ _ hC2 Tryd.underlying23 rfl hi2
  have hBB2 := hB1.trans (hB2.mono (by have := hz1'.out; omega))
  have hs2 : w.heap.size + 2 ≤ w2.heap.size := by have := hz1'.out; have := hB2.size; omega
  clear hL1 hA1 hC1 hB1 hB2
  go_wp2_with fail
  refine (hEgH.out _).mono ?_
  rintro e w3 ⟨rfl, hB3⟩
  rw [e2.out]
  have hC3 := (hB3.block _ (by omega)).trans hC2
  have hA3 := (hB3.block _ (by omega)).trans hA2
  have hs3 : w.heap.size + 2 ≤ w3.heap.size := by have := hB3.size; omega
  have hBB3 := hBB2.trans (hB3.mono (by omega))
  clear hL2 hA2 hC2 hB3 hBB2
  go_upto_region 5 with fail
  have hL3a := ldRow_eq w3 w.heap.size _ 23 cs _ _ hA3 Tryd.underlying23 rfl hi1
  have hL3b := ldRow_eq w3 (w.heap.size + 1) _ 23 ds _ _ hC3 Tryd.underlying23 rfl hi2
  go_cut [19] (fun s19 wx => s19 = .bool (!kq) ∧ Below w3.heap.size w3 wx)
  case first =>
    go_region_held3 (fun W => (ldRow 23 (.pointer (some ⟨w.heap.size, 0, none⟩))).run Tryd.prog W = .ok (.agg cs) W ∧ (ldRow 23 (.pointer (some ⟨w.heap.size + 1, 0, none⟩))).run Tryd.prog W = .ok (.agg ds) W) (first | exact ⟨ldRow_eq _ _ _ _ _ _ _ hA7 Tryd.underlying23 rfl hi1, ldRow_eq _ _ _ _ _ _ _ hC7 Tryd.underlying23 rfl hi2⟩ | exact ⟨ldRow_eq _ _ _ _ _ _ _ hA5 Tryd.underlying23 rfl hi1, ldRow_eq _ _ _ _ _ _ _ hC5 Tryd.underlying23 rfl hi2⟩ | exact ⟨ldRow_eq _ _ _ _ _ _ _ hA3 Tryd.underlying23 rfl hi1, ldRow_eq _ _ _ _ _ _ _ hC3 Tryd.underlying23 rfl hi2⟩)
      (first
        | ((with_reducible refine (hKfH.out _).mono ?_); rintro e w5 ⟨rfl, hB5⟩; have hA5 := (hB5.block w.heap.size (show _ < w3.heap.size by omega)).trans hA3; have hC5 := (hB5.block (w.heap.size + 1) (show _ < w3.heap.size by omega)).trans hC3; have hB5' : Below w3.heap.size w3 w5 := ⟨hB5.os, hB5.tape, hB5.output, hB5.size, hB5.block⟩)
        | ((with_reducible refine (hKgH.out _).mono ?_); rintro e w7 ⟨rfl, hB7⟩; have hs5 := hB5'.size; have hA7 := (hB7.block w.heap.size (show _ < w5.heap.size by omega)).trans hA5; have hC7 := (hB7.block (w.heap.size + 1) (show _ < w5.heap.size by omega)).trans hC5; have hB7' : Below w3.heap.size w3 w7 := hB5'.trans (Below.mono (show Below w5.heap.size w5 w7 from ⟨hB7.os, hB7.tape, hB7.output, hB7.size, hB7.block⟩) hs5)))
    all_goals (go_wp2_with fail; go_meet)
    all_goals exact ⟨rfl, hB7'⟩
  case rest =>
    obtain ⟨rfl, hBc⟩ := hcut
    have hA8 := (hBc.block w.heap.size (by omega)).trans hA3
    have hC8 := (hBc.block (w.heap.size + 1) (by omega)).trans hC3
    have dA : wc.cell? ⟨w.heap.size, 2, none⟩ = some (.int .i64 (f 2)) := by rw [cell_of_heap hA8, hcs'.out, fcells_get _ _ _ (by decide)]
    have dC : wc.cell? ⟨w.heap.size + 1, 2, none⟩ = some (.int .i64 (g 2)) := by rw [cell_of_heap hC8, hds'.out, fcells_get _ _ _ (by decide)]
    have hBB := hBB3.trans (hBc.mono (by omega))
    clear hA8 hC8 hA3 hC3 hL3a hL3b hNK
    cases kq
    · have hp : RW.prevB f g s u = false := RW.dec_false (fun h => by have := (RW.dec_iff _).2 h.2.2.1; rw [← hkH.out] at this; cases this)
      have hpH := hide hp
      clear hp
      go_wp2
      go_ret
      rw [hpH.out]
      exact ⟨rfl, hBB⟩
    · have hk3 := (RW.dec_iff _).1 hkH.out.symm
      by_cases hv : f 2 = g 2
      · have hb : (f 2 != g 2) = false := by simp [hv]
        have hc := fun W => SH.strings_Compare ⟨(RW.encL f s.data.toList).toArray⟩ ⟨(RW.encL g u.data.toList).toArray⟩ W
        have hp : RW.prevB f g s u = decide (0 < Lib.compareBytes (RW.encL f s.data.toList) (RW.encL g u.data.toList)) := by
          refine (RW.dec_eq ?_).symm
          rw [decide_eq_true_iff]
          exact ⟨fun h => ⟨v1.out, v2.out, hk3, .inr ⟨hv, h⟩⟩, fun h => by rcases h.2.2.2 with h | h; omega; exact h.2⟩
        have hpH := hide hp
        have hcH := hide hc
        have hvH := hide hv
        clear hp hc hv hk3
        go_wp2_with fail
        refine (hcH.out _).mono ?_
        rintro e w9 ⟨rfl, rfl⟩
        go_wp2
        go_ret
        rw [hpH.out]
        exact ⟨rfl, hBB⟩
      · have hb : (f 2 != g 2) = true := by simp [hv]
        have hp : RW.prevB f g s u = decide (g 2 < f 2) := by
          refine (RW.dec_eq ?_).symm
          rw [decide_eq_true_iff]
          exact ⟨fun h => ⟨v1.out, v2.out, hk3, .inl h⟩, fun h => by rcases h.2.2.2 with h | h; exact h; exact absurd h.1 hv⟩
        have hpH := hide hp
        clear hp hv hk3
        go_wp2
        go_ret
        rw [hpH.out]
        exact ⟨rfl, hBB⟩
theorem prev_any (f g : Nat → Int) (s u : ByteArray) (w : World) :
    Calls Tryd.prog 19 #[.agg (RW.fcells f s), .agg (RW.fcells g u)] w fun e w' => e = .returned (.bool (RW.prevB f g s u)) ∧ Below w.heap.size w w' := by
  cases h1 : RW.validB f s.size
  · have hp : RW.prevB f g s u = false := RW.dec_false (fun h => by have := h.1; rw [h1] at this; cases this)
    rw [hp]; exact prev_no1 f g s u w h1
  · cases h2 : RW.validB g u.size
    · have hp : RW.prevB f g s u = false := RW.dec_false (fun h => by have := h.2.1; rw [h2] at this; cases this)
      rw [hp]; exact prev_no2 f g s u w h1 h2
    · exact prev_both f g s u w h1 h2
end Go.Proofs.YtpihhjpgdbcifaaDoor

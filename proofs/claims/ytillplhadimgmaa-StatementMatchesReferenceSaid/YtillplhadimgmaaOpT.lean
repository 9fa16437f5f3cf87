/-
  Statements, books, slices of triples as arguments: what is read of them.
-/
import Derived.Test.YtillplhadimgmaaOpD
import Derived.Test.YtillplhadimgmaaSt6
namespace Go.Proofs.Ytillplhadimgmaa
open Go.ChangeShapes Go.WideShapes Go.ChangeAt Go.RowKit
section
variable {H : Type} {enc : TypeId × Value → H} {W : World} {sp : Nat → Bool} {held : Bool}
set_option maxRecDepth 100000 in
theorem trod_rows {α : Type} {k : Nat} {ec : α → List Value} {T E : TypeId} (good : α → Prop) (hu : Try.prog.underlying T = some (.slice E)) (hcl : Try.prog.cellsOf E = k) (h0 : 0 < k) (hlen : ∀ x, (ec x).length = k)
    (hel : ∀ (fuel : Nat) (cs : List Value) (x : DataW H × List MemPlace), cs.length = k → DataW.trod enc Try.prog W 0 sp held fuel E cs = some x → ∃ y : α, good y ∧ cs = ec y)
    {fuel : Nat} {cs : List Value} {x : DataW H × List MemPlace} (hf : DataW.trod enc Try.prog W 0 sp held fuel T cs = some x) :
    ∃ v, cs = [v] ∧ ∃ l : List α, RowV k ec W v l ∧ (∀ x ∈ l, good x) ∧ l.length ≤ 9223372036854775807 := by
  rcases Deep.open_slice hu hf with ⟨hcs, _⟩ | ⟨a', len, cap, m, n, D, Pl, hcs, hb, hl, hm, hmm, _, hall⟩
  · exact ⟨_, hcs, [], RowV.nil W, by simp, by simp⟩
  · refine ⟨_, hcs, ?_⟩
    have hlm : len ≤ m := by rw [hmm]; split <;> omega
    have key : ∀ i, i < len → ∃ y : α, good y ∧ ∀ j u, (ec y)[j]? = some u → W.cell? (a'.add (i * k + j)) = some u := fun i hi => by
      obtain ⟨cs', h1, h2⟩ := hall i (by omega)
      rw [hcl] at h1
      obtain ⟨_, hln, hc⟩ := World.cells?_some h1
      obtain ⟨y, hy, rfl⟩ := hel _ _ _ hln h2
      refine ⟨y, hy, fun j u hj => ?_⟩
      have hjk : j < k := by rw [← hln]; exact (List.getElem?_eq_some_iff.1 hj).1
      rw [← Deep.add_add, ← hj]
      exact hc j hjk
    rcases Nat.eq_zero_or_pos len with h00 | h00
    · subst h00
      exact ⟨[], ⟨some a', cap, rfl, Nat.zero_le _, .inl rfl⟩, by simp, by simp⟩
    · obtain ⟨y0, _, _⟩ := key 0 h00
      have : Nonempty α := ⟨y0⟩
      obtain ⟨X, hX⟩ := Classical.axiomOfChoice (r := fun (i : Fin len) (y : α) => good y ∧ ∀ j u, (ec y)[j]? = some u → W.cell? (a'.add (i.1 * k + j)) = some u) (fun i => key i.1 i.2)
      have hll : (List.ofFn X).length = len := List.length_ofFn
      have hget : ∀ i x, (List.ofFn X)[i]? = some x → ∃ hi : i < len, x = X ⟨i, hi⟩ := fun i x hx => by
        have hi := (List.getElem?_eq_some_iff.1 hx).1
        rw [hll] at hi
        refine ⟨hi, ?_⟩
        rw [List.getElem?_eq_getElem (by rw [hll]; exact hi), List.getElem_ofFn] at hx
        exact (Option.some.inj hx).symm
      refine ⟨List.ofFn X, ⟨some a', cap, by rw [hll], by rw [hll]; exact hl, .inr ?_⟩, fun x hx => ?_, by rw [hll]; unfold maxLen at hm; omega⟩
      · obtain ⟨b, off, spot⟩ := a'
        have hc0 : ∃ u, (ec (X ⟨0, h00⟩))[0]? = some u := ⟨_, List.getElem?_eq_getElem (by rw [hlen]; exact h0)⟩
        obtain ⟨u0, hu0⟩ := hc0
        have hr0 := (hX ⟨0, h00⟩).2 0 u0 hu0
        have hs : spot = none := by simpa [Addr.add] using World.cell?_spot hr0
        subst hs
        have hb2 : b < W.heap.size := by
          have := World.block_lt_of_cell? W _ hr0
          simpa [Addr.add] using this
        refine ⟨b, off, rfl, hb2, fun i x hx j u hj => ?_⟩
        obtain ⟨hi, rfl⟩ := hget i x hx
        have := (hX ⟨i, hi⟩).2 j u hj
        rwa [show ((⟨b, off, none⟩ : Addr).add (i * k + j)) = ⟨b, off + i * k + j, none⟩ by unfold Addr.add; split <;> simp_all [Nat.add_assoc]] at this
      · obtain ⟨i, hi⟩ := List.getElem?_of_mem hx
        obtain ⟨hi', rfl⟩ := hget i x hi
        exact (hX ⟨i, hi'⟩).1
theorem trod_sl {T E : TypeId} (hu : Try.prog.underlying T = some (.slice E)) {fuel : Nat} {cs : List Value} {x : DataW H × List MemPlace} (hf : DataW.trod enc Try.prog W 0 sp held fuel T cs = some x) : ∃ a n c, cs = [.slice a n c] := by
  rcases Deep.open_slice hu hf with ⟨hcs, _⟩ | ⟨a', len, cap, m, n, D, Pl, hcs, _⟩
  · exact ⟨_, _, _, hcs⟩
  · exact ⟨_, _, _, hcs⟩
/-- three ints of a struct, from place i on -/
theorem three_eq {cs : List Value} {a b c : Int} (hl : cs.length = 3) (e0 : cs[0]? = some (.int .i64 a)) (e1 : cs[1]? = some (.int .i64 b)) (e2 : cs[2]? = some (.int .i64 c)) : cs = RW.lnl (a, b, c) := by
  apply List.ext_getElem?
  intro i
  rcases Nat.lt_or_ge i 3 with h3 | h3
  · rcases i with _ | _ | _ | i
    · rw [e0]; rfl
    · rw [e1]; rfl
    · rw [e2]; rfl
    · omega
  · rw [List.getElem?_eq_none (by omega), List.getElem?_eq_none (by show 3 ≤ i; exact h3)]
set_option maxRecDepth 100000 in
theorem line_fields : ∃ fs : Array Field, Try.prog.underlying 61 = some (.struct fs) ∧ fs.size = 3 ∧ (∃ f : Field, fs[0]? = some f ∧ f.type = 3 ∧ f.offset = 0) ∧ (∃ f : Field, fs[1]? = some f ∧ f.type = 3 ∧ f.offset = 1) ∧ (∃ f : Field, fs[2]? = some f ∧ f.type = 3 ∧ f.offset = 2) :=
  ⟨_, Try.underlying61, rfl, ⟨_, rfl, rfl, rfl⟩, ⟨_, rfl, rfl, rfl⟩, ⟨_, rfl, rfl, rfl⟩⟩
/-- a triple of numbers that fit -/
def TrB (y : RW.Ln) : Prop := RW.i64 y.1 ∧ RW.i64 y.2.1 ∧ RW.i64 y.2.2
set_option maxRecDepth 100000 in
theorem open_linec {fuel : Nat} {cs : List Value} {x : DataW H × List MemPlace} (hl : cs.length = 3) (h : DataW.trod enc Try.prog W 0 sp held fuel 61 cs = some x) : ∃ y : RW.Ln, TrB y ∧ cs = RW.lnl y := by
  obtain ⟨fs, hu, hz, ⟨f0, hf0, ht0, ho0⟩, ⟨f1, hf1, ht1, ho1⟩, ⟨f2, hf2, ht2, ho2⟩⟩ := line_fields
  obtain ⟨xs, m, _, hx, _, hxl, hi⟩ := DataW.trod_struct hu h
  have g0 := hi 0 f0 hf0
  rw [ht0, ho0, cellsI, List.getElem?_eq_getElem (by omega)] at g0
  obtain ⟨n0, hn0, _, hw0⟩ := DataW.trod_int Try.underlying3 g0
  have g1 := hi 1 f1 hf1
  rw [ht1, ho1, cellsI, List.getElem?_eq_getElem (by omega)] at g1
  obtain ⟨n1, hn1, _, hw1⟩ := DataW.trod_int Try.underlying3 g1
  have g2 := hi 2 f2 hf2
  rw [ht2, ho2, cellsI, List.getElem?_eq_getElem (by omega)] at g2
  obtain ⟨n2, hn2, _, hw2⟩ := DataW.trod_int Try.underlying3 g2
  exact ⟨(n0, n1, n2), ⟨bounds_i64 hw0, bounds_i64 hw1, bounds_i64 hw2⟩, three_eq hl (one_at _ _ _ hn0) (one_at _ _ _ hn1) (one_at _ _ _ hn2)⟩
set_option maxRecDepth 100000 in
theorem open_tripc {fuel : Nat} {cs : List Value} {x : DataW H × List MemPlace} (hl : cs.length = 3) (h : DataW.trod enc Try.prog W 0 sp held fuel 62 cs = some x) : ∃ y : RW.Ln, TrB y ∧ cs = RW.lnl y := by
  obtain ⟨xs, m, _, hx, _, hn, hall⟩ := DataW.trod_array Try.underlying62 h
  have key : ∀ j, j < 3 → ∃ z : Int, cs[j]? = some (.int .i64 z) ∧ RW.i64 z := fun j hj => by
    have h1 := hall j hj
    rw [cellsI, Nat.mul_one, List.getElem?_eq_getElem (by omega)] at h1
    obtain ⟨z, hz1, _, hw⟩ := DataW.trod_int Try.underlying3 h1
    exact ⟨z, one_at _ _ _ hz1, bounds_i64 hw⟩
  obtain ⟨a, ha, ba⟩ := key 0 (by decide)
  obtain ⟨b, hb, bb⟩ := key 1 (by decide)
  obtain ⟨c, hc, bc⟩ := key 2 (by decide)
  exact ⟨(a, b, c), ⟨ba, bb, bc⟩, three_eq hl ha hb hc⟩
set_option maxRecDepth 100000 in
theorem open_trips {r : Reach} {b0 : Nat} {v : Value} {d : DataW H} {ps : List MemPlace} (hval : Value.okWide Try.prog W r b0 29 v) (h : DataW.Trod enc Try.prog W 0 sp held 29 v d ps) :
    ∃ l : List RW.Ln, LnsV W v l ∧ (∀ x ∈ l, TrB x) ∧ l.length ≤ 9223372036854775807 :=
  open_rows (k := 3) (ec := RW.lnl) TrB Try.underlying29 (by kernel_rfl) (by decide) (fun _ => rfl) (fun _ _ _ hl h => open_tripc hl h) hval h
set_option maxRecDepth 100000 in
theorem okWide_structT {t : TypeId} {fs : Array Field} (hu : Try.prog.underlying t = some (.struct fs)) {r : Reach} {b0 : Nat} {v : Value} (hval : Value.okWide Try.prog W r b0 t v) : ∃ cs, v = .agg cs ∧ cs.size = Try.prog.cellsOf t := by
  simp only [Value.okWide, hu] at hval
  obtain ⟨cs, h1, h2, _⟩ := hval
  exact ⟨cs, h1, h2⟩
set_option maxRecDepth 100000 in
theorem stmt_fields : ∃ fs : Array Field, Try.prog.underlying 39 = some (.struct fs) ∧ fs.size = 3 ∧ (∃ f : Field, fs[0]? = some f ∧ f.type = 3 ∧ f.offset = 0) ∧ (∃ f : Field, fs[1]? = some f ∧ f.type = 3 ∧ f.offset = 1) ∧ (∃ f : Field, fs[2]? = some f ∧ f.type = 37 ∧ f.offset = 2) :=
  ⟨_, Try.underlying39, rfl, ⟨_, rfl, rfl, rfl⟩, ⟨_, rfl, rfl, rfl⟩, ⟨_, rfl, rfl, rfl⟩⟩
set_option maxRecDepth 100000 in
theorem cellsLn : Try.prog.cellsOf 37 = 1 := by kernel_rfl
set_option maxRecDepth 100000 in
theorem open_stmt {r : Reach} {b0 : Nat} {v : Value} {d : DataW H} {ps : List MemPlace} (hval : Value.okWide Try.prog W r b0 39 v) (h : DataW.Trod enc Try.prog W 0 sp held 39 v d ps) :
    ∃ (a b : Int) (u : Value) (l : List RW.Ln), v = .agg #[.int .i64 a, .int .i64 b, u] ∧ LnsV W u l ∧ l.length ≤ 9223372036854775807 := by
  obtain ⟨fs, hu, hz, ⟨f0, hf0, ht0, ho0⟩, ⟨f1, hf1, ht1, ho1⟩, ⟨f2, hf2, ht2, ho2⟩⟩ := stmt_fields
  obtain ⟨cs, rfl, hsz⟩ := okWide_structT hu hval
  obtain ⟨fuel, hf⟩ := h
  have hcl : (Value.agg cs).cells.toList = cs.toList := rfl
  rw [hcl] at hf
  rw [show Try.prog.cellsOf 39 = 3 by kernel_rfl] at hsz
  have hl : cs.toList.length = 3 := by rw [Array.length_toList]; exact hsz
  obtain ⟨xs, m, _, hx, _, hxl, hi⟩ := DataW.trod_struct hu hf
  have g0 := hi 0 f0 hf0
  rw [ht0, ho0, cellsI, List.getElem?_eq_getElem (by omega)] at g0
  obtain ⟨n0, hn0, _, hw0⟩ := DataW.trod_int Try.underlying3 g0
  have g1 := hi 1 f1 hf1
  rw [ht1, ho1, cellsI, List.getElem?_eq_getElem (by omega)] at g1
  obtain ⟨n1, hn1, _, hw1⟩ := DataW.trod_int Try.underlying3 g1
  have g2 := hi 2 f2 hf2
  rw [ht2, ho2, cellsLn, List.getElem?_eq_getElem (by omega)] at g2
  obtain ⟨u, hu2, l, hrow, _, hll⟩ := trod_rows (k := 3) (ec := RW.lnl) TrB Try.underlying37 (by kernel_rfl) (by decide) (fun _ => rfl) (fun _ _ _ hl h => open_linec hl h) g2
  refine ⟨n0, n1, u, l, ?_, hrow, hll⟩
  have e0 := one_at _ _ _ hn0
  have e1 := one_at _ _ _ hn1
  have e2 := one_at _ _ _ hu2
  have hlist : cs.toList = [.int .i64 n0, .int .i64 n1, u] := by
    apply List.ext_getElem?
    intro i
    rcases Nat.lt_or_ge i 3 with h3 | h3
    · rcases i with _ | _ | _ | i
      · rw [e0]; rfl
      · rw [e1]; rfl
      · rw [e2]; rfl
      · omega
    · rw [List.getElem?_eq_none (by omega), List.getElem?_eq_none (by show 3 ≤ i; exact h3)]
  rw [show cs = #[.int .i64 n0, .int .i64 n1, u] from Array.toList_inj.1 hlist]
end
end Go.Proofs.Ytillplhadimgmaa

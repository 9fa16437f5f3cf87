/-
  What the list of package variables of JournalFacts' row gives a walk (the digest's table, the journal's error, the fact's error), and one world that holds them so.
-/
import Derived.Test.YtllbphanfahkkaaGreatDoorMQ1
import Derived.Test.YtllbphanfahkkaaGreatDoorMQ3
import Derived.Test.YtllbphanfahkkaaGreatDoorJOq
import Derived.Test.YtllbphanfahkkaaGreatDoorFs6
namespace Go.Proofs.YtllbphanfahkkaaGreatDoor
open Go.ChangeShapes Go.WideShapes Go.ChangeAt Go.RowKit
namespace JF
theorem gF : Tryz.prog.globalNamed "royalty/fact.errWire" = some 0 := by kernel_rfl
theorem gFType : (Tryz.prog.globals[0]?).map (·.type) = some 91 := by kernel_rfl
/-- what the row lists -/
def laidL : List (String × DataW Unit) := [("unicode/utf8.acceptRanges", Rows.laid_unicode_utf8_acceptRanges), ("royalty/digest.round", Rows.laid_royalty_digest_round), ("royalty/fact.errWire", Rows.laid_royalty_fact_errWire), ("royalty/journal.errDamaged", Rows.laid_royalty_journal_errDamaged), ("unicode/utf8.first", Rows.laid_unicode_utf8_first)]
theorem laid_met_of {W : World} (h : laidMetH Tryz.prog laidL W) : KLaid W RW.kCells ∧ (∃ a, W.cell? ⟨1, 0, none⟩ = some (RW.jeW a)) ∧ ∃ a, W.cell? ⟨0, 0, none⟩ = some (RW.eW a) := by
  have h1 : laidMet Tryz.prog laidL W := h
  have h1t := laidMet.tail h1
  have h2t := laidMet.tail h1t
  have h3t := laidMet.tail h2t
  refine ⟨?_, ?_, ?_⟩
  · have h2 : laidMet Tryz.prog (("royalty/digest.round", Lib.tabData .u32 RW.kNums) :: [("royalty/fact.errWire", Rows.laid_royalty_fact_errWire), ("royalty/journal.errDamaged", Rows.laid_royalty_journal_errDamaged), ("unicode/utf8.first", Rows.laid_unicode_utf8_first)]) W := by rw [← RW.k_data]; exact h1t
    have h3 : W.var? Tryz.prog "royalty/digest.round" = some RW.kCells := Lib.tabIs_of_head gK gKType Tryz.underlying262 Tryz.underlying119 cellsU cellsK h2
    unfold World.var? at h3
    rw [gK] at h3
    simp only [Option.bind_some] at h3
    split at h3
    · rename_i cs t fr hh
      cases h3
      exact ⟨_, _, hh⟩
    · cases h3
  · obtain ⟨a, s, hv, _⟩ := laid_sentinel h3t gE gEType Tryz.underlying91 rowES Tryz.underlying282 Tryz.underlying304 rfl rfl Tryz.underlying9 cellsES cellsS
    exact ⟨a, by simpa [RW.jeW] using World.var?_cell gE hv 0⟩
  · obtain ⟨a, s, hv, _⟩ := laid_sentinel h2t gF gFType Tryz.underlying91 rowES Tryz.underlying282 Tryz.underlying304 rfl rfl Tryz.underlying9 cellsES cellsS
    exact ⟨a, by simpa [RW.eW] using World.var?_cell gF hv 0⟩
/-- a world that holds them so -/
noncomputable def laidWorld (os : Os) : World :=
  let w0 := World.holding Tryz.prog os ⟨#[.cells #[.string ⟨#[100, 97, 109, 97, 103, 101, 100]⟩] 304, .cells #[.string ⟨#[109, 97, 108, 102, 111, 114, 109, 101, 100]⟩] 304], #[], []⟩
  { w0 with heap := ((((w0.heap.modify 1 fun
      | .cells _ t frozen => .cells #[.iface 282 (.pointer (some ⟨low, 0, none⟩))] t frozen
      | o => o).modify 4 fun
      | .cells _ t frozen => .cells RW.kCells t frozen
      | o => o).modify 3 fun
      | .cells _ t frozen => .cells (RW.leafs Rows.laid_unicode_utf8_acceptRanges).toArray t frozen
      | o => o).modify 2 fun
      | .cells _ t frozen => .cells (RW.leafs Rows.laid_unicode_utf8_first).toArray t frozen
      | o => o).modify 0 fun
      | .cells _ t frozen => .cells #[.iface 282 (.pointer (some ⟨low + 1, 0, none⟩))] t frozen
      | o => o }
theorem laid_met (os : Os) (args : Array Value) : laidMet Tryz.prog laidL ((laidWorld os).forCall (fun _ _ => 0) ⟨#[], args, []⟩).memory :=
  laidMet_of_run' 8 (by kernel_rfl) (by kernel_rfl)
end JF
end Go.Proofs.YtllbphanfahkkaaGreatDoor

/-
  Lists of facts as arguments: what is read of them.
-/
namespace Go.Proofs.YtllbphanfahkkaaGreatDoor
open Go.ChangeShapes Go.WideShapes Go.ChangeAt Go.RowKit
theorem fc_getJ (f : Nat → Int) (s : ByteArray) (i : Nat) (h : i < 17) : (RW.fcells f s)[i]? = some (.int .i64 (f i)) := by
  have h' : i = 0 ∨ i = 1 ∨ i = 2 ∨ i = 3 ∨ i = 4 ∨ i = 5 ∨ i = 6 ∨ i = 7 ∨ i = 8 ∨ i = 9 ∨ i = 10 ∨ i = 11 ∨ i = 12 ∨ i = 13 ∨ i = 14 ∨ i = 15 ∨ i = 16 := by omega
  rcases h' with rfl | rfl | rfl | rfl | rfl | rfl | rfl | rfl | rfl | rfl | rfl | rfl | rfl | rfl | rfl | rfl | rfl <;> rfl
section
variable {H : Type} {enc : TypeId × Value → H} {W : World} {sp : Nat → Bool} {held : Bool}
set_option maxRecDepth 100000 in
theorem fact_fieldsJ : ∃ fs : Array Field, Tryz.prog.underlying 70 = some (.struct fs) ∧ fs.size = 18 ∧ (∀ i, i < 17 → ∃ f : Field, fs[i]? = some f ∧ f.type = 3 ∧ f.offset = i) ∧ (∃ f : Field, fs[17]? = some f ∧ f.type = 9 ∧ f.offset = 17) := by
  refine ⟨_, Tryz.underlying70, rfl, fun i hi => ?_, ⟨_, rfl, rfl, rfl⟩⟩
  rcases i with _ | _ | _ | _ | _ | _ | _ | _ | _ | _ | _ | _ | _ | _ | _ | _ | _ | i
  all_goals first | exact ⟨_, rfl, rfl, rfl⟩ | omega
def RW.intInJ (cs : List Value) (i : Nat) : Int := match cs[i]? with
  | some (.int _ n) => n
  | _ => 0
set_option maxRecDepth 100000 in
theorem open_factcJ {fuel : Nat} {cs : List Value} {x : DataW H × List MemPlace} (hl : cs.length = 18) (h : DataW.trod enc Tryz.prog W 0 sp held fuel 70 cs = some x) : ∃ y : RW.Fc, y.2.size ≤ maxLen ∧ cs = RW.fce y := by
  obtain ⟨fs, hu, hz, hint, fx, hfx, hft, hfo⟩ := fact_fieldsJ
  obtain ⟨xs, m, _, hx, _, hxl, hi⟩ := DataW.trod_struct hu h
  rw [hz] at hxl
  have hI : ∀ i, i < 17 → cs[i]? = some (.int .i64 (RW.intInJ cs i)) := fun i hi' => by
    obtain ⟨ff, hff, ht, ho⟩ := hint i hi'
    have h1 := hi i ff hff
    rw [ht, ho, cellsIJ, List.getElem?_eq_getElem (by omega)] at h1
    obtain ⟨n, hn, _, hw⟩ := DataW.trod_int Tryz.underlying3 h1
    have h2 := one_atJ _ _ _ hn
    have h3 : RW.intInJ cs i = n := by unfold RW.intInJ; rw [h2]
    rw [h3]
    exact h2
  have hS : ∃ s : ByteArray, cs[17]? = some (.string s) ∧ s.size ≤ maxLen := by
    have h1 := hi 17 fx hfx
    rw [hft, hfo, cellsS, List.getElem?_eq_getElem (by omega)] at h1
    obtain ⟨s, hn, _, hm⟩ := DataW.trod_string Tryz.underlying9 h1
    exact ⟨s, one_atJ _ _ _ hn, hm⟩
  obtain ⟨s, hs, hm⟩ := hS
  refine ⟨(RW.intInJ cs, s), hm, ?_⟩
  apply List.ext_getElem?
  intro i
  rcases Nat.lt_or_ge i 17 with h17 | h17
  · rw [hI i h17]
    rw [← fc_getJ (RW.intInJ cs) s i h17]
    unfold RW.fce
    rw [Array.getElem?_toList]
  · rcases Nat.eq_or_lt_of_le h17 with rfl | h18
    · rw [hs]; rfl
    · rw [List.getElem?_eq_none (by omega), List.getElem?_eq_none (by rw [fcl_len]; omega)]
set_option maxRecDepth 100000 in
theorem open_factsJ {r : Reach} {b0 : Nat} {v : Value} {d : DataW H} {ps : List MemPlace} (hval : Value.okWide Tryz.prog W r b0 68 v) (h : DataW.Trod enc Tryz.prog W 0 sp held 68 v d ps) :
    ∃ l : List RW.Fc, FactsV W v l ∧ (∀ x ∈ l, x.2.size ≤ 9223372036854775807) ∧ l.length ≤ 9223372036854775807 := by
  obtain ⟨fuel, hf⟩ := h
  rw [cells_slice Tryz.underlying68 hval] at hf
  obtain ⟨v', hv, l, h1, h2, h3⟩ := trod_rows (k := 18) (ec := RW.fce) (fun y : RW.Fc => y.2.size ≤ maxLen) Tryz.underlying68 (by kernel_rfl) (by decide) fcl_len (fun _ _ _ hl h => open_factcJ hl h) hf
  cases hv
  exact ⟨l, h1, fun x hx => by have := h2 x hx; unfold maxLen at this; omega, h3⟩
set_option maxRecDepth 100000 in
theorem open_ints64J {r : Reach} {b0 : Nat} {v : Value} {d : DataW H} {ps : List MemPlace} (hval : Value.okWide Tryz.prog W r b0 56 v) (h : DataW.Trod enc Tryz.prog W 0 sp held 56 v d ps) :
    ∃ l : List Int, IntR W v l ∧ (∀ x ∈ l, -9223372036854775808 ≤ x ∧ x ≤ 9223372036854775807) ∧ l.length ≤ 9223372036854775807 := by
  obtain ⟨fuel, hf⟩ := h
  rw [cells_slice Tryz.underlying56 hval] at hf
  obtain ⟨v', hv, l, h1, h2, h3⟩ := trod_rows (k := 1) (ec := fun z : Int => [Value.int .i64 z]) (fun z : Int => -9223372036854775808 ≤ z ∧ z ≤ 9223372036854775807) Tryz.underlying56 (by kernel_rfl) (by decide) (fun _ => rfl) (fun _ cs _ _ h => by
    obtain ⟨z, hz, _, hw⟩ := DataW.trod_int Tryz.underlying3 h
    exact ⟨z, bounds_i64 hw, hz⟩) hf
  cases hv
  exact ⟨l, h1, h2, h3⟩
end
end Go.Proofs.YtllbphanfahkkaaGreatDoor

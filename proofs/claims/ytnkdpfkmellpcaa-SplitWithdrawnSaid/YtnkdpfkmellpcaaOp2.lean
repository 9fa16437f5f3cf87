/-
  An array of four whole numbers as an argument: what is read of it.
-/
import Derived.Test.YtnkdpfkmellpcaaOp1
namespace Go.Proofs.Ytnkdpfkmellpcaa
open Go.ChangeShapes Go.WideShapes Go.ChangeAt Go.RowKit
section
variable {H : Type} {enc : TypeId × Value → H} {W : World} {sp : Nat → Bool} {held : Bool}
theorem cells4 : Try.prog.cellsOf 51 = 4 := by kernel_rfl
theorem open_four {r : Reach} {b0 : Nat} {v : Value} {d : DataW H} {ps : List MemPlace} (hval : Value.okWide Try.prog W r b0 51 v) (h : DataW.Trod enc Try.prog W 0 sp held 51 v d ps) :
    ∃ y : Int × Int × Int × Int, v = .agg #[.int .i64 y.1, .int .i64 y.2.1, .int .i64 y.2.2.1, .int .i64 y.2.2.2] ∧ RW.i64 y.1 ∧ RW.i64 y.2.1 ∧ RW.i64 y.2.2.1 ∧ RW.i64 y.2.2.2 := by
  obtain ⟨cs, rfl, hsz⟩ : ∃ cs, v = .agg cs ∧ cs.size = Try.prog.cellsOf 51 := by
    have hu := Try.underlying51
    simp only [Value.okWide, hu] at hval
    obtain ⟨cs, h1, h2, _⟩ := hval
    exact ⟨cs, h1, h2⟩
  obtain ⟨fuel, hf⟩ := h
  have hcl : (Value.agg cs).cells.toList = cs.toList := rfl
  rw [hcl] at hf
  rw [cells4] at hsz
  have hl : cs.toList.length = 4 := by rw [Array.length_toList]; exact hsz
  obtain ⟨xs, m, _, hx, _, hn, hall⟩ := DataW.trod_array Try.underlying51 hf
  have key : ∀ j, j < 4 → ∃ z : Int, cs.toList[j]? = some (.int .i64 z) ∧ RW.i64 z := fun j hj => by
    have h1 := hall j hj
    rw [cellsI, Nat.mul_one, List.getElem?_eq_getElem (by omega)] at h1
    obtain ⟨z, hz1, _, hw⟩ := DataW.trod_int Try.underlying3 h1
    exact ⟨z, one_at _ _ _ hz1, bounds_i64 hw⟩
  obtain ⟨a, ha, ba⟩ := key 0 (by decide)
  obtain ⟨b, hb, bb⟩ := key 1 (by decide)
  obtain ⟨c, hc, bc⟩ := key 2 (by decide)
  obtain ⟨e, he, be⟩ := key 3 (by decide)
  refine ⟨(a, b, c, e), ?_, ba, bb, bc, be⟩
  have hlist : cs.toList = [.int .i64 a, .int .i64 b, .int .i64 c, .int .i64 e] := by
    apply List.ext_getElem?
    intro i
    rcases Nat.lt_or_ge i 4 with h4 | h4
    · rcases i with _ | _ | _ | _ | i
      · rw [ha]; rfl
      · rw [hb]; rfl
      · rw [hc]; rfl
      · rw [he]; rfl
      · omega
    · rw [List.getElem?_eq_none (by omega), List.getElem?_eq_none (by simpa using h4)]
  have : cs = #[.int .i64 a, .int .i64 b, .int .i64 c, .int .i64 e] := by
    apply Array.toList_inj.1
    exact hlist
  rw [this]
end
end Go.Proofs.Ytnkdpfkmellpcaa

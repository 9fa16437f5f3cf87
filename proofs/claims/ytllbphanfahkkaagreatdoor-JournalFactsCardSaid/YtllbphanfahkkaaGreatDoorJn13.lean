/-
  Package royaltylaw23: JournalReopens.
-/
import Derived.Test.YtllbphanfahkkaaGreatDoorMQ1
namespace Go.Proofs.YtllbphanfahkkaaGreatDoor
open Go.RowKit RG
/-- a row of rows of strings -/
def GrpR (W : World) (v : Value) (ps : List (Value × List ByteArray)) : Prop := RowV 1 (fun p : Value × List ByteArray => [p.1]) W v ps ∧ ∀ p ∈ ps, StrR W p.1 p.2 ∧ p.2.length ≤ 9223372036854775807
theorem GrpR.next {W W' : World} {v : Value} {ps : List (Value × List ByteArray)} (h : GrpR W v ps) (hB : Below W.heap.size W W') : GrpR W' v ps := ⟨RowV.next h.1 hB, fun p hp => ⟨RowV.next (h.2 p hp).1 hB, (h.2 p hp).2⟩⟩
theorem grp_cell {W : World} {v : Value} {ps : List (Value × List ByteArray)} {j : Nat} {p : Value × List ByteArray} (h : GrpR W v ps) (hp : ps[j]? = some p) : ∃ g o c, v = .slice (some ⟨g, o, none⟩) ps.length c ∧ W.cell? ⟨g, o + j, none⟩ = some p.1 ∧ StrR W p.1 p.2 ∧ p.2.length ≤ 9223372036854775807 := by
  obtain ⟨⟨a, c, rfl, _, hc⟩, h2⟩ := h
  rcases hc with rfl | ⟨g, o, rfl, hb, hc⟩
  · simp at hp
  · have e := hc j p hp 0 _ rfl
    rw [Nat.mul_one, Nat.add_zero] at e
    exact ⟨g, o, c, rfl, e, h2 p (List.mem_of_getElem? hp)⟩
end Go.Proofs.YtllbphanfahkkaaGreatDoor

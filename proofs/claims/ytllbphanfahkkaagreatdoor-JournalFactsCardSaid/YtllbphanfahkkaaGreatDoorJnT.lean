/-
  Journals: a crash of the disk, and opening what it leaves: no condition beyond each theorem's own premises.
-/
import Derived.Test.YtllbphanfahkkaaGreatDoorMQ5
import Derived.Test.YtllbphanfahkkaaGreatDoorJn14
import Derived.Test.YtllbphanfahkkaaGreatDoorMQ4
namespace Go.Proofs.YtllbphanfahkkaaGreatDoor
open Go.RowKit RG
section
variable {K : Nat → Int} {ks : Array Value} {B b n db vb jb : Nat} {S : RW.Dk} {rs rs' l : List ByteArray} {br : Bool} {w W W' : World}
theorem JW.crash (h : JW K B b n db vb jb S rs br w W) (hok : S.ok n) {kv : Value} {keep : List Int} (torn : Int) (hkl : keep.length ≤ 1000000) (hI : IntsB W.heap.size W kv keep) :
    Calls Tryz.prog 31 #[.pointer (some ⟨b, 0, none⟩), kv, .int .i64 torn] W fun e w' => e = .returned (.int .i64 0) ∧ JW K B b n db vb jb (S.crash keep torn) rs br w w' ∧ Below B W w' ∧ Tch b db vb W w' := by
  obtain ⟨pv, h1⟩ := h.d
  obtain ⟨rv, h2⟩ := h.j
  refine (crash_any B b n db vb pv S kv keep torn W h1 hok hkl hI).mono ?_
  rintro e w' ⟨h3, pv', h4, h5, h6⟩
  exact ⟨h3, ⟨⟨pv', h4⟩, ⟨rv, h2.tch h1 h5⟩, h.bel.trans h6⟩, h6, h5⟩
/-- Open behind a crash -/
theorem open_lies (hks : RW.WsOk ks K) {c : List UInt8} {a : Addr} (h : JW K B b n db vb jb ⟨false, 0, c, c, []⟩ rs' br w W) (hL : RW.Lies (RW.sha K) n c rs) (hK : KLaid W ks) (hg : W.cell? ⟨1, 0, none⟩ = some (RW.jeW a)) :
    Calls Tryz.prog 26 #[.pointer (some ⟨b, 0, none⟩)] W fun e w' => ∃ j2 S', e = .returned (.tuple #[.pointer (some ⟨j2, 0, none⟩), .int .i64 0]) ∧ RW.JInv (RW.sha K) n S' rs ∧ S'.left = 0 ∧ JW K B b n db vb j2 S' rs false w w' ∧ Tch b db vb W w' ∧ Below B W w' := by
  obtain ⟨pv, hd⟩ := h.d
  obtain ⟨S', hj, hI, h0⟩ := RW.jopen_lies (RW.sha K) (RW.sha_len K) hL
  refine (Open_any B b n db vb pv _ a K ks hks W hd (by show 0 < 900000; decide) hK hg).mono ?_
  rintro e w' ⟨h1, h2, h3, h4⟩
  rw [hj] at h1 h4
  rcases h4 with ⟨h5, _⟩ | ⟨rs2, j2, rv, _, h5, _, h6, h7⟩
  · cases h5
  · injection h5 with h5
    subst h5
    exact ⟨j2, S', h6, hI, h0, ⟨h1, ⟨rv, h7.mono (Nat.le_trans hd.hb (Nat.le_of_lt hd.lt.1))⟩, h.bel.trans h3⟩, h2, h3⟩
end
/-- a value that is a list of ints -/
abbrev IntR (W : World) (v : Value) (l : List Int) : Prop := RowV 1 (fun z => [Value.int .i64 z]) W v l
theorem ints_rowJ {W : World} {v : Value} {l : List Int} (h : IntR W v l) : IntsB W.heap.size W v l := by
  obtain ⟨a, cap, rfl, hc, h2⟩ := h
  refine ⟨a, cap, rfl, ?_⟩
  rcases h2 with rfl | ⟨b, off, e, hb, hcc⟩
  · exact .inl rfl
  · refine .inr ⟨b, off, e, hb, fun j x hx => ?_⟩
    have := hcc j x hx 0 _ rfl
    rwa [Nat.mul_one, Nat.add_zero] at this
theorem row_cap {α : Type} {k : Nat} {enc : α → List Value} {W : World} {a : Option Addr} {n c : Nat} {l : List α} (h : RowV k enc W (.slice a n c) l) : n ≤ c := by
  obtain ⟨a', c', e, hc, _⟩ := h
  injection e with e1 e2 e3
  omega
theorem ints_first {W : World} {a : Option Addr} {n c : Nat} {l : List Int} (h : IntR W (.slice a n c) l) (hn : n = l.length) : IntR W (.slice a (min n 20) c) (l.take 20) := by
  have h1 := RowV.first h (min n 20) (by rw [hn]; exact Nat.min_le_left _ _)
  rwa [show l.take (min n 20) = l.take 20 by rw [hn, ← List.take_take]; exact List.take_of_length_le (by rw [List.length_take]; omega)] at h1
end Go.Proofs.YtllbphanfahkkaaGreatDoor

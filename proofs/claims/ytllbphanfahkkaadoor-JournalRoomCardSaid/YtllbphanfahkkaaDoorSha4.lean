/-
  slices.Chunk over bytes (its closure, for whatever each round does), and digest.words.digest: what they do; only new memory is written.
-/
import Derived.BigRegionIn
import Derived.RegionIn
import Derived.Test.YtllbphanfahkkaaDoorSha3
namespace Go.Proofs.YtllbphanfahkkaaDoor
open Go.RowKit Go.Shelf
attribute [local go_sem] Oper.semAt_some
set_option maxRecDepth 100000 in
set_option maxHeartbeats 1000000 in
theorem chunk1 (F : Fence) (n : Nat) (h6 : F.fn 84) (hro : F.round = none) (hn : 1 ≤ n) (l b1 b2 g m cap : Nat) (J : Nat → World → Prop)
    (hY : ∀ c W, c < m → J c W → YieldAt F (n - 1) Tryd.prog l #[.slice (some ⟨g, 64 * c, none⟩) 64 64] W fun e W' =>
      e = .returned (.bool true) ∧ J (c + 1) W' ∧ W'.cell? ⟨b1, 0, none⟩ = W.cell? ⟨b1, 0, none⟩ ∧ W'.cell? ⟨b2, 0, none⟩ = W.cell? ⟨b2, 0, none⟩)
    (hJd : ∀ c W, J c W → J c W.drew)
    (hcap : 64 * m ≤ cap) (hcap2 : cap ≤ 9223372036854775807) (W : World) (hc1 : W.cell? ⟨b1, 0, none⟩ = some (.slice (some ⟨g, 0, none⟩) (64 * m) cap)) (hc2 : W.cell? ⟨b2, 0, none⟩ = some (.int .i64 64)) (h0 : J 0 W) :
    CallsIn F n Tryd.prog 84 #[.func (.yield l) #[] #[], .pointer (some ⟨b1, 0, none⟩), .pointer (some ⟨b2, 0, none⟩)] W fun e W' => (∃ v, e = .returned v) ∧ J m W' := by
  refine callsIn_of_wp Tryd.func84 rfl h6 ?_ hro
  simp only [Tryd.ntmps84, List.size_toArray, List.length_cons, List.length_nil, Nat.reduceAdd, Nat.reduceSub, Array.replicate_succ, Array.replicate_zero, List.push_toArray, List.append_toArray, List.nil_append, List.cons_append]
  gi_wp2
  gi_loopw [4] (fun i wr => ∃ c : Nat, c ≤ m ∧ i = .int .i64 (64 * (c : Int)) ∧ wr.cell? ⟨b1, 0, none⟩ = some (.slice (some ⟨g, 0, none⟩) (64 * m) cap) ∧ wr.cell? ⟨b2, 0, none⟩ = some (.int .i64 64) ∧ J c wr)
    (fun i wr => 64 * m - (intOf i).toNat)
  case atStart => exact ⟨0, Nat.zero_le _, rfl, hc1, hc2, h0⟩
  case round =>
    obtain ⟨c, hc, rfl, h1, h2, hJ⟩ := hrel
    by_cases hlt : c < m
    · have p0 : (0 : Int) ≤ 64 * (c : Int) := by omega
      have p1 : 64 * (c : Int) < 64 * (m : Int) := by omega
      have p2 : 64 * (c : Int) ≤ 64 * (m : Int) := by omega
      have p3 : 64 * (c : Int) + 64 ≤ (cap : Int) := by omega
      have n1 : (64 * (c : Int)).toNat = 64 * c := by omega
      have n2 : (64 * (c : Int) + 64).toNat = 64 * c + 64 := by omega
      have d1 : ¬ ((64 * m - 64 * c : Nat) : Int) < 64 := by omega
      have d2 : ¬ cap = 64 * c := by omega
      have s1 : 64 * c + 64 - 64 * c = 64 := by omega
      have hJd1 := hJd c wr hJ
      have hh1 : wr.drew.cell? ⟨b1, 0, none⟩ = some (.slice (some ⟨g, 0, none⟩) (64 * m) cap) := h1
      have hh2 : wr.drew.cell? ⟨b2, 0, none⟩ = some (.int .i64 64) := h2
      obtain ⟨fn, tmps, assign, body, hy, hR⟩ := hY c wr.drew hlt hJd1
      gi_wp2
      gi_region
      all_goals
        gi_wp2
        refine hR.mono ?_
        rintro e W3 ⟨rfl, hJ3, hk1, hk2⟩
        rw [hh1] at hk1
        rw [hh2] at hk2
        gi_wp2
        go_roundw
        case rel => exact ⟨c + 1, by omega, by go_num, hk1, hk2, hJ3⟩
        case measure => simp [intOf]; omega
    · gi_wp2
      go_end0
      exact ⟨⟨_, rfl⟩, by rw [show m = c by omega]; exact hJ⟩
end Go.Proofs.YtllbphanfahkkaaDoor

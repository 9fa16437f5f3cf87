/-
  The small functions of the digest: RotateLeft32, royaltyref02.rotated: what each returns; the world as it was (or one draw on).
-/
import Derived.Deep.QuietTactic
import Derived.BigQuiet
import Derived.Test.YtllbphanfahkkaaDoorProg
import Derived.Test.YtllbphanfahkkaaDoorWireP
namespace Go.Proofs.YtllbphanfahkkaaDoor
open Go.RowKit
namespace RW
/-- a word turned right -/
def rotr (x : Int) (n : Nat) : Int := bits .or .u32 (x / 2 ^ n) (x * 2 ^ (32 - n) % 4294967296)
theorem bits_or_comm (k : IntKind) (a b : Int) : bits .or k a b = bits .or k b a := by
  unfold bits; simp only [BitVec.or_comm]
theorem and31 (n : Nat) (h : 1 ≤ n) (h2 : n ≤ 31) : bits .and .u64 (IntKind.u64.wrap (-(n : Int))) 31 = ((32 - n : Nat) : Int) := by
  have e : IntKind.u64.wrap (-(n : Int)) = ((18446744073709551616 - n : Nat) : Int) := by rw [IntKind.wrap_u64]; omega
  have := u64_and_nat (18446744073709551616 - n) 31 (by omega) (by decide)
  rw [nat_mask5] at this
  rw [e]; refine this.trans ?_; omega
end RW
set_option maxHeartbeats 1000000 in
theorem rotl_any (x : Int) (n : Nat) (h : 1 ≤ n) (h2 : n ≤ 31) (w : World) :
    Calls Tryd.prog 89 #[.int .u32 x, .int .i64 (-(n : Int))] w fun e w' => e = .returned (.int .u32 (RW.rotr x n)) ∧ w = w' := by
  have ha := RW.and31 n h h2
  have h3 : ((32 - n : Nat) : Int) < 32 := by omega
  go_enter Tryd.func89, Tryd.ntmps89
  go_wp2
  go_ret
  refine ⟨ret_int ?_, rfl⟩
  rw [RW.rotr, RW.bits_or_comm, show 32 - (32 - n) = n by omega]
namespace RW
def mixF (x : Int) (ns : List Nat) : Int := ns.foldl (fun acc n => bits .xor .u32 acc (rotr x n)) 0
theorem mixF_snoc (x : Int) (ns : List Nat) (n : Nat) : mixF x (ns ++ [n]) = bits .xor .u32 (mixF x ns) (rotr x n) := by simp [mixF]
def intsV (ns : List Nat) : List Value := ns.map fun n : Nat => Value.int .i64 (n : Int)
end RW
set_option maxRecDepth 10000 in
set_option maxHeartbeats 1000000 in
theorem mixed_any (x : Int) (ns : List Nat) (a : Addr) (cap : Nat) (hns : ∀ n ∈ ns, 1 ≤ n ∧ n ≤ 31) (hl : ns.length ≤ 100) (w : World)
    (hc : ∀ j (h : j < ns.length), w.cell? (a.add j) = some (.int .i64 (ns[j] : Int))) :
    Calls Tryd.prog 86 #[.int .u32 x, .slice (some a) ns.length cap] w fun e w' => e = .returned (.int .u32 (RW.mixF x ns)) ∧ w = w' := by
  go_enter Tryd.func86, Tryd.ntmps86
  go_wp2
  go_loop [5, 10] (fun o i => ∃ k : Nat, k ≤ ns.length ∧ i = .int .i64 k ∧ o = .int .u32 (RW.mixF x (ns.take k))) (fun _ i => ns.length - (intOf i).toNat)
  case atStart => exact ⟨0, Nat.zero_le _, rfl, rfl⟩
  case round =>
    obtain ⟨k, hk, rfl, rfl⟩ := hrel
    by_cases hlt : k < ns.length
    · have hck := hc k hlt
      obtain ⟨n, hn⟩ : ∃ n, n = ns[k] := ⟨_, rfl⟩
      have hb := hns ns[k] (List.getElem_mem _)
      have hs : RW.mixF x (ns.take (k + 1)) = bits .xor .u32 (RW.mixF x (ns.take k)) (RW.rotr x n) := by
        rw [List.take_succ_eq_append_getElem hlt, RW.mixF_snoc, hn]
      rw [← hn] at hck hb
      have hsH := hide hs
      clear hs hn hc
      go_wp2_with (go_at_call 89; refine (rotl_any x n hb.1 hb.2 _).mono ?_; rintro e w' ⟨rfl, rfl⟩)
      go_round
      case rel => exact ⟨k + 1, by omega, by go_num, by rw [hsH.out]⟩
      case measure => simp [intOf]; omega
    · go_wp2
      go_ret
      exact ⟨by rw [List.take_of_length_le (by omega)]; rfl, rfl⟩
theorem mixed2 (x : Int) (n0 n1 g cap : Nat) (hn : (1 ≤ n0 ∧ n0 ≤ 31) ∧ 1 ≤ n1 ∧ n1 ≤ 31) (w : World)
    (h0 : w.cell? ⟨g, 0, none⟩ = some (.int .i64 (n0 : Int))) (h1 : w.cell? ⟨g, 1, none⟩ = some (.int .i64 (n1 : Int))) :
    Calls Tryd.prog 86 #[.int .u32 x, .slice (some ⟨g, 0, none⟩) 2 cap] w fun e w' => e = .returned (.int .u32 (RW.mixF x [n0, n1])) ∧ w = w' :=
  mixed_any x [n0, n1] ⟨g, 0, none⟩ cap (by intro n h; simp at h; omega) (by simp) w (fun j hj => by
    match j, hj with
    | 0, _ => simpa [Addr.add] using h0
    | 1, _ => simpa [Addr.add] using h1)
theorem mixed3 (x : Int) (n0 n1 n2 g cap : Nat) (hn : (1 ≤ n0 ∧ n0 ≤ 31) ∧ (1 ≤ n1 ∧ n1 ≤ 31) ∧ 1 ≤ n2 ∧ n2 ≤ 31) (w : World)
    (h0 : w.cell? ⟨g, 0, none⟩ = some (.int .i64 (n0 : Int))) (h1 : w.cell? ⟨g, 1, none⟩ = some (.int .i64 (n1 : Int))) (h2 : w.cell? ⟨g, 2, none⟩ = some (.int .i64 (n2 : Int))) :
    Calls Tryd.prog 86 #[.int .u32 x, .slice (some ⟨g, 0, none⟩) 3 cap] w fun e w' => e = .returned (.int .u32 (RW.mixF x [n0, n1, n2])) ∧ w = w' :=
  mixed_any x [n0, n1, n2] ⟨g, 0, none⟩ cap (by intro n h; simp at h; omega) (by simp) w (fun j hj => by
    match j, hj with
    | 0, _ => simpa [Addr.add] using h0
    | 1, _ => simpa [Addr.add] using h1
    | 2, _ => simpa [Addr.add] using h2)
end Go.Proofs.YtllbphanfahkkaaDoor

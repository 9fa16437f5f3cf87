/-
  digest.words.digest: the 32 bytes of the eight words; only new memory is written.
-/
import Derived.Test.YtllbphanfahkkaaDoorSha4
namespace Go.Proofs.YtllbphanfahkkaaDoor
open Go.RowKit
namespace RW
def dbyte (H : Nat → Int) (j : Nat) : UInt8 := UInt8.ofNat ((H (j / 4) / 2 ^ (24 - 8 * (j % 4))) % 256).toNat
def dig (H : Nat → Int) : List UInt8 := (List.range 32).map (dbyte H)
def drow (H : Nat → Int) (n j : Nat) : Value := .int .u8 (if j < n then (dbyte H j).toNat else 0)
end RW
theorem RW.drow_set (H : Nat → Int) (m k : Nat) (v : Int) (hv : v = ((RW.dbyte H (4 * m + k)).toNat : Int)) (j : Nat) :
    (if j = 4 * m + k then Value.int .u8 v else RW.drow H (4 * m + k) j) = RW.drow H (4 * m + k + 1) j := by
  unfold RW.drow
  by_cases h1 : j = 4 * m + k
  · subst h1; simp [hv]
  · by_cases h2 : j < 4 * m + k
    · rw [if_neg h1, if_pos h2, if_pos (by omega)]
    · rw [if_neg h1, if_neg h2, if_neg (by omega)]
theorem RW.toNat_ofNat_byte (x : Int) : ((UInt8.ofNat (x % 256).toNat).toNat : Int) = x % 256 := by
  have h1 := Int.emod_nonneg x (show (256 : Int) ≠ 0 by decide)
  have h2 := Int.emod_lt_of_pos x (show (0 : Int) < 256 by decide)
  rw [UInt8.toNat_ofNat', Nat.mod_eq_of_lt (by omega)]
  omega
set_option maxRecDepth 10000 in
set_option maxHeartbeats 1000000 in
theorem digest_any (H : Nat → Int) (hH : ∀ i, i < 8 → 0 ≤ H i ∧ H i < 4294967296) (w : World) :
    Calls Tryd.prog 80 #[.agg (RW.vrow H)] w fun e w' => e = .returned (.string ⟨(RW.dig H).toArray⟩) ∧ Below w.heap.size w w' := by
  have hu94 : (Tryd.prog.info? 137).map (·.size) = some 1 := by kernel_rfl
  have hi96 : (Tryd.prog.info? 139).map (·.size) = some 8 := by kernel_rfl
  have hix : ∀ i : Nat, i < 8 → ∀ w', (Instr.index 139 (.agg (RW.vrow H)) (.int .i64 (i : Int))).run Tryd.prog w' = .ok (.int .u32 (H i)) w' := fun i hi w' => run_index_agg (P := Tryd.prog) 139 137 8 (RW.vrow H) .i64 i .u32 (.int .u32 (H i)) Tryd.underlying139 Tryd.underlying137 hu94 hi (RW.vrow_get H i hi) w'
  unfold RW.vrow at hix
  have hixH := hide hix
  clear hix
  show Calls _ _ #[.agg #[.int .u32 (H 0), .int .u32 (H 1), .int .u32 (H 2), .int .u32 (H 3), .int .u32 (H 4), .int .u32 (H 5), .int .u32 (H 6), .int .u32 (H 7)]] w _
  go_enter Tryd.func80, Tryd.ntmps80
  go_wp2
  have hr0 : ((w.alloc (.cells (RW.vrow H) 139)).alloc (.cells (Array.replicate 32 (.int .u8 0)) 151)).rowIs (w.heap.size + 1) 151 32 (RW.drow H 0) := by
    have := World.rowIs_alloc (w.alloc (.cells (RW.vrow H) 139)) (Array.replicate 32 (.int .u8 0)) 151 (RW.drow H 0) (by
      intro i hi
      have hi' : i < 32 := by simpa using hi
      simp [RW.drow, hi'])
    simpa using this
  have hB0 : Below w.heap.size w ((w.alloc (.cells (RW.vrow H) 139)).alloc (.cells (Array.replicate 32 (.int .u8 0)) 151)) := ((Below.refl _ _).alloc (Nat.le_refl _) _).alloc (by simp) _
  obtain ⟨w0, hw0⟩ : ∃ w0, w0 = (w.alloc (.cells (RW.vrow H) 139)).alloc (.cells (Array.replicate 32 (.int .u8 0)) 151) := ⟨_, rfl⟩
  rw [← hw0] at hr0 hB0
  have hw0' := hw0
  simp only [RW.vrow, Array.replicate_succ, Array.replicate_zero, List.push_toArray, List.nil_append, List.cons_append] at hw0'
  rw [← hw0']
  clear hw0 hw0'
  go_loopw [8] (fun i wr => ∃ m : Nat, m ≤ 8 ∧ i = .int .i64 m ∧ wr.rowIs (w.heap.size + 1) 151 32 (RW.drow H (4 * m)) ∧ Below w.heap.size w wr) (fun i _ => 8 - (intOf i).toNat)
  case atStart => exact ⟨0, Nat.zero_le _, rfl, hr0, hB0⟩
  case round =>
    clear hr0 hB0
    obtain ⟨m, hm, rfl, hr, hB⟩ := hrel
    by_cases hlt : m < 8
    · have hix := hixH.out m hlt
      have hb := hH m hlt
      obtain ⟨wo, rfl⟩ : ∃ wo : World, wo = wr := ⟨_, rfl⟩
      go_wp2
      go_loopw [12] (fun c wr => ∃ k : Nat, k ≤ 4 ∧ c = .int .i64 k ∧ wr.rowIs (w.heap.size + 1) 151 32 (RW.drow H (4 * m + k)) ∧ Below w.heap.size w wr) (fun c _ => 4 - (intOf c).toNat)
      case atStart => exact ⟨0, Nat.zero_le _, rfl, hr, hB⟩
      case round =>
        clear hr hB
        obtain ⟨k, hk, rfl, hr, hB⟩ := hrel
        by_cases hkl : k < 4
        · have p1 : (0 : Int) ≤ 4 * (m : Int) + k := by omega
          have p2 : 4 * (m : Int) + k < 32 := by omega
          have n1 : (4 * (m : Int) + k).toNat = 4 * m + k := by omega
          have cA := hr.cell (i := 4 * m + k) (by omega)
          have fA := hr.frozen (4 * m + k)
          go_wp2
          go_roundw
          case rel =>
            refine ⟨k + 1, by omega, by go_num, (hr.set (4 * m + k) _).congr (fun j _ => RW.drow_set H m k _ ?_ j), hB.setCell (by simp) _⟩
            simp only [RW.dbyte, show (4 * m + k) / 4 = m by omega, show (4 * m + k) % 4 = k by omega]
            exact (RW.toNat_ofNat_byte _).symm
          case measure => simp [intOf]; omega
        · go_wp2
          go_roundw
          case rel => exact ⟨m + 1, by omega, by go_num, by rw [show 4 * (m + 1) = 4 * m + k by omega]; exact hr, hB⟩
          case measure => simp [intOf]; omega
    · have hm8 : m = 8 := by omega
      have hc : ∀ j (hj : j < (RW.dig H).length), wr.cell? ((⟨w.heap.size + 1, 0, none⟩ : Addr).add j) = some (.int .u8 ((RW.dig H)[j].toNat : Int)) := fun j hj => by
        have hj' : j < 32 := by simpa [RW.dig] using hj
        have hc := hr.cell (i := j) hj'
        have he : ((⟨w.heap.size + 1, 0, none⟩ : Addr).add j) = { block := w.heap.size + 1, off := j } := by
          by_cases h0 : j = 0 <;> simp [Addr.add, h0]
        rw [he, hc]
        simp [RW.drow, RW.dig, hm8, hj']
      have hrun := run_convert_bytes_back (P := Tryd.prog) wr 38 9 5 ⟨w.heap.size + 1, 0, none⟩ 32 (RW.dig H) Tryd.underlying38 Tryd.underlying5 Tryd.underlying9 hc
      have hl : (RW.dig H).length = 32 := by simp [RW.dig]
      rw [hl] at hrun
      clear hc hr
      go_wp2
      go_ret
      exact ⟨rfl, hB⟩
end Go.Proofs.YtllbphanfahkkaaDoor

/-
  The small functions of the digest: RotateLeft32, royaltyref02.rotated: what each returns; the world as it was (or one draw on).
-/
import Derived.Deep.QuietTactic
import Derived.BigQuiet
import Derived.Test.YtllbphanfahkkaaGreatDoorProg
import Derived.Test.YtllbphanfahkkaaGreatDoorMA
import Derived.Deep.OwnRows
import Derived.Deep.RegionHeld3
import Derived.StillTailTactics
import Derived.Maps.AppendAt
import Derived.Laws.CopyOwn
import Derived.BigRegionIn
import Derived.RegionIn
import Derived.Maps.OwnIn
import Derived.RangeFuncCalls
import Derived.Laws.IdiomStrings
namespace Go.Proofs.YtllbphanfahkkaaGreatDoor
open Go.RowKit
namespace RW
/-- a word turned right -/
def rotr (x : Int) (n : Nat) : Int := bits .or .u32 (x / 2 ^ n) (x * 2 ^ (32 - n) % 4294967296)
theorem bits_or_comm (k : IntKind) (a b : Int) : bits .or k a b = bits .or k b a := by
  unfold bits; simp only [BitVec.or_comm]
theorem and31 (n : Nat) (h : 1 ≤ n) (h2 : n ≤ 31) : bits .and .u64 (IntKind.u64.wrap (-(n : Int))) 31 = ((32 - n : Nat) : Int) := by
  have e : IntKind.u64.wrap (-(n : Int)) = ((18446744073709551616 - n : Nat) : Int) := by rw [IntKind.wrap_u64]; omega
  have := u64_and_nat (18446744073709551616 - n) 31 (by omega) (by decide)
  rw [nat_mask5] at this
  rw [e]; refine this.trans ?_; omega
end RW
set_option maxHeartbeats 1000000 in
theorem rotl_any (x : Int) (n : Nat) (h : 1 ≤ n) (h2 : n ≤ 31) (w : World) :
    Calls Tryz.prog 197 #[.int .u32 x, .int .i64 (-(n : Int))] w fun e w' => e = .returned (.int .u32 (RW.rotr x n)) ∧ w = w' := by
  have ha := RW.and31 n h h2
  have h3 : ((32 - n : Nat) : Int) < 32 := by omega
  go_enter Tryz.func197, Tryz.ntmps197
  go_wp2
  go_ret
  refine ⟨ret_int ?_, rfl⟩
  rw [RW.rotr, RW.bits_or_comm, show 32 - (32 - n) = n by omega]
set_option maxHeartbeats 1000000 in
theorem rotated_any (x : Int) (n : Nat) (h : 1 ≤ n) (h2 : n ≤ 31) (w : World) :
    Calls Tryz.prog 104 #[.int .u32 x, .int .i64 n] w fun e w' => e = .returned (.int .u32 (RW.rotr x n)) ∧ ∃ k, w' = w.drewN k := by
  go_enter Tryz.func104, Tryz.ntmps104
  go_wp2
  go_quiet (fail)
  go_wp2
  go_ret
  exact ⟨rfl, _, rfl⟩
namespace RW
def mixF (x : Int) (ns : List Nat) : Int := ns.foldl (fun acc n => bits .xor .u32 acc (rotr x n)) 0
theorem mixF_snoc (x : Int) (ns : List Nat) (n : Nat) : mixF x (ns ++ [n]) = bits .xor .u32 (mixF x ns) (rotr x n) := by simp [mixF]
def intsV (ns : List Nat) : List Value := ns.map fun n : Nat => Value.int .i64 (n : Int)
end RW
set_option maxRecDepth 10000 in
set_option maxHeartbeats 1000000 in
theorem mixed_any (x : Int) (ns : List Nat) (a : Addr) (cap : Nat) (hns : ∀ n ∈ ns, 1 ≤ n ∧ n ≤ 31) (hl : ns.length ≤ 100) (w : World)
    (hc : ∀ j (h : j < ns.length), w.cell? (a.add j) = some (.int .i64 (ns[j] : Int))) :
    Calls Tryz.prog 190 #[.int .u32 x, .slice (some a) ns.length cap] w fun e w' => e = .returned (.int .u32 (RW.mixF x ns)) ∧ w = w' := by
  go_enter Tryz.func190, Tryz.ntmps190
  go_wp2
  go_loop [5, 10] (fun o i => ∃ k : Nat, k ≤ ns.length ∧ i = .int .i64 k ∧ o = .int .u32 (RW.mixF x (ns.take k))) (fun _ i => ns.length - (intOf i).toNat)
  case atStart => exact ⟨0, Nat.zero_le _, rfl, rfl⟩
  case round =>
    obtain ⟨k, hk, rfl, rfl⟩ := hrel
    by_cases hlt : k < ns.length
    · have hck := hc k hlt
      obtain ⟨n, hn⟩ : ∃ n, n = ns[k] := ⟨_, rfl⟩
      have hb := hns ns[k] (List.getElem_mem _)
      have hs : RW.mixF x (ns.take (k + 1)) = bits .xor .u32 (RW.mixF x (ns.take k)) (RW.rotr x n) := by
        rw [List.take_succ_eq_append_getElem hlt, RW.mixF_snoc, hn]
      rw [← hn] at hck hb
      have hsH := hide hs
      clear hs hn hc
      go_wp2_with (go_at_call 197; refine (rotl_any x n hb.1 hb.2 _).mono ?_; rintro e w' ⟨rfl, rfl⟩)
      go_round
      case rel => exact ⟨k + 1, by omega, by go_num, by rw [hsH.out]⟩
      case measure => simp [intOf]; omega
    · go_wp2
      go_ret
      exact ⟨by rw [List.take_of_length_le (by omega)]; rfl, rfl⟩
theorem mixed2 (x : Int) (n0 n1 g cap : Nat) (hn : (1 ≤ n0 ∧ n0 ≤ 31) ∧ 1 ≤ n1 ∧ n1 ≤ 31) (w : World)
    (h0 : w.cell? ⟨g, 0, none⟩ = some (.int .i64 (n0 : Int))) (h1 : w.cell? ⟨g, 1, none⟩ = some (.int .i64 (n1 : Int))) :
    Calls Tryz.prog 190 #[.int .u32 x, .slice (some ⟨g, 0, none⟩) 2 cap] w fun e w' => e = .returned (.int .u32 (RW.mixF x [n0, n1])) ∧ w = w' :=
  mixed_any x [n0, n1] ⟨g, 0, none⟩ cap (by intro n h; simp at h; omega) (by simp) w (fun j hj => by
    match j, hj with
    | 0, _ => simpa [Addr.add] using h0
    | 1, _ => simpa [Addr.add] using h1)
theorem mixed3 (x : Int) (n0 n1 n2 g cap : Nat) (hn : (1 ≤ n0 ∧ n0 ≤ 31) ∧ (1 ≤ n1 ∧ n1 ≤ 31) ∧ 1 ≤ n2 ∧ n2 ≤ 31) (w : World)
    (h0 : w.cell? ⟨g, 0, none⟩ = some (.int .i64 (n0 : Int))) (h1 : w.cell? ⟨g, 1, none⟩ = some (.int .i64 (n1 : Int))) (h2 : w.cell? ⟨g, 2, none⟩ = some (.int .i64 (n2 : Int))) :
    Calls Tryz.prog 190 #[.int .u32 x, .slice (some ⟨g, 0, none⟩) 3 cap] w fun e w' => e = .returned (.int .u32 (RW.mixF x [n0, n1, n2])) ∧ w = w' :=
  mixed_any x [n0, n1, n2] ⟨g, 0, none⟩ cap (by intro n h; simp at h; omega) (by simp) w (fun j hj => by
    match j, hj with
    | 0, _ => simpa [Addr.add] using h0
    | 1, _ => simpa [Addr.add] using h1
    | 2, _ => simpa [Addr.add] using h2)
end Go.Proofs.YtllbphanfahkkaaGreatDoor

/-
  digest.schedule: the 64 words of a block; only new memory is written.
-/
namespace Go.Proofs.YtllbphanfahkkaaGreatDoor
open Go.RowKit
namespace RW
theorem block_of_add (a : Addr) (n : Nat) : (a.add n).block = a.block := by unfold Addr.add; split <;> rfl
theorem below_setRow {B : Nat} {a w : World} (h : Below B a w) {g : Nat} (hg : B ≤ g) (cs : Array Value) : Below B a (w.setRow g cs) :=
  h.trans ⟨rfl, rfl, rfl, by simp [World.setRow], fun k hk => by simp only [World.setRow, Array.getElem?_modify]; rw [if_neg (by omega)]⟩
/-- the first sixteen words -/
def w16 (b : Nat → Int) (i : Nat) : Int :=
  bits .or .u32 (bits .or .u32 (bits .or .u32 (b (4 * i) * 16777216) (b (4 * i + 1) * 65536)) (b (4 * i + 2) * 256)) (b (4 * i + 3))
def wst (W : Nat → Int) (i : Nat) : Int := 
  (((W (i - 16) + bits .xor .u32 (mixF (W (i - 15)) [7, 18]) (W (i - 15) / 8)) % 4294967296 + W (i - 7)) % 4294967296 + bits .xor .u32 (mixF (W (i - 2)) [17, 19]) (W (i - 2) / 1024)) % 4294967296
def wl (b : Nat → Int) : Nat → List Int
  | 0 => []
  | i + 1 => wl b i ++ [if i < 16 then w16 b i else wst (fun j => (wl b i).getD j 0) i]
def wf (b : Nat → Int) (j : Nat) : Int := (wl b (j + 1)).getD j 0
theorem wl_length (b : Nat → Int) (i : Nat) : (wl b i).length = i := by induction i with | zero => rfl | succ i ih => simp [wl, ih]
theorem wl_get (b : Nat → Int) (i j : Nat) (h : j < i) : (wl b i).getD j 0 = wf b j := by
  induction i with
  | zero => omega
  | succ i ih =>
    by_cases hj : j = i
    · subst hj; rfl
    · rw [wl, List.getD_eq_getElem?_getD, List.getElem?_append_left (by rw [wl_length]; omega), ← List.getD_eq_getElem?_getD]
      exact ih (by omega)
theorem wst_congr (V W : Nat → Int) (i : Nat) (h : ∀ j, j < i → V j = W j) (hi : 16 ≤ i) : wst V i = wst W i := by
  unfold wst; rw [h (i - 16) (by omega), h (i - 15) (by omega), h (i - 7) (by omega), h (i - 2) (by omega)]
theorem wf_eq (b : Nat → Int) (i : Nat) : wf b i = if i < 16 then w16 b i else wst (wf b) i := by
  unfold wf
  rw [wl, List.getD_eq_getElem?_getD, List.getElem?_append_right (by rw [wl_length]; omega), wl_length]
  simp only [Nat.sub_self, List.getElem?_cons_zero, Option.getD_some]
  by_cases h : i < 16
  · rw [if_pos h, if_pos h]
  · rw [if_neg h, if_neg h]
    exact wst_congr _ _ i (fun j hj => wl_get b i j hj) (by omega)
def wrow (b : Nat → Int) (k j : Nat) : Value := .int .u32 (if j < k then wf b j else 0)
theorem wrow_step16 (b : Nat → Int) (k : Nat) (hk : k < 16) : ∀ j, j < 64 → (if j = k then Value.int .u32 (w16 b k) else wrow b k j) = wrow b (k + 1) j := by
  intro j _
  unfold wrow
  by_cases h : j = k
  · subst h; rw [if_pos rfl, if_pos (by omega), wf_eq, if_pos hk]
  · rw [if_neg h]
    by_cases h2 : j < k
    · rw [if_pos h2, if_pos (by omega)]
    · rw [if_neg h2, if_neg (by omega)]
theorem wrow_step (b : Nat → Int) (k : Nat) (hk : 16 ≤ k) : ∀ j, j < 64 → (if j = k then Value.int .u32 (wst (wf b) k) else wrow b k j) = wrow b (k + 1) j := by
  intro j _
  unfold wrow
  by_cases h : j = k
  · subst h; rw [if_pos rfl, if_pos (by omega), wf_eq, if_neg (by omega)]
  · rw [if_neg h]
    by_cases h2 : j < k
    · rw [if_pos h2, if_pos (by omega)]
    · rw [if_neg h2, if_neg (by omega)]
end RW
set_option maxRecDepth 10000 in
set_option maxHeartbeats 1000000 in
theorem schedule_any (b : Nat → Int) (ab ao : Nat) (cap : Nat) (hb : ∀ i, i < 64 → 0 ≤ b i ∧ b i ≤ 255) (w : World) (hab : ab < w.heap.size)
    (hc : ∀ i, i < 64 → w.cell? ⟨ab, ao + i, none⟩ = some (.int .u8 (b i))) :
    Calls Tryz.prog 189 #[.slice (some ⟨ab, ao, none⟩) 64 cap] w fun e w' => e = .returned (.agg (((List.range 64).map fun j => Value.int .u32 (RW.wf b j)).toArray)) ∧ Below w.heap.size w w' := by
  go_enter Tryz.func189, Tryz.ntmps189
  go_wp2
  have hr0 : (w.alloc (.cells (Array.replicate 64 (.int .u32 0)) 262)).rowIs w.heap.size 262 64 (RW.wrow b 0) := by
    refine World.rowIs_alloc w (Array.replicate 64 (.int .u32 0)) _ _ ?_
    intro i hi
    have hi' : i < 64 := by simpa using hi
    simp [RW.wrow, hi']
  have hB0 : Below w.heap.size w (w.alloc (.cells (Array.replicate 64 (.int .u32 0)) 262)) := (Below.refl _ _).alloc (Nat.le_refl _) _
  obtain ⟨w0, hw0⟩ : ∃ w0, w0 = w.alloc (.cells (Array.replicate 64 (.int .u32 0)) 262) := ⟨_, rfl⟩
  rw [← hw0] at hr0 hB0
  have hw0' := hw0
  simp only [Array.replicate_succ, Array.replicate_zero, List.push_toArray, List.nil_append, List.cons_append] at hw0'
  rw [← hw0']
  clear hw0 hw0'
  go_loopw [7] (fun i wr => ∃ k : Nat, k ≤ 16 ∧ i = .int .i64 k ∧ wr.rowIs w.heap.size 262 64 (RW.wrow b k) ∧ Below w.heap.size w wr) (fun i _ => 16 - (intOf i).toNat)
  case atStart => exact ⟨0, Nat.zero_le _, rfl, hr0, hB0⟩
  case round =>
    obtain ⟨k, hk, rfl, hr, hB⟩ := hrel
    by_cases hlt : k < 16
    · have hcell : ∀ i, i < 64 → wr.cell? ⟨ab, ao + i, none⟩ = some (.int .u8 (b i)) := fun i hi => (hB.cell hab).trans (hc i hi)
      have c0 := hcell (4 * k) (by omega)
      have c1 := hcell (4 * k + 1) (by omega)
      have c2 : wr.cell? ⟨ab, ao + (4 * k + 1 + 1), none⟩ = _ := hcell (4 * k + 2) (by omega)
      have c3 : wr.cell? ⟨ab, ao + (4 * k + 1 + 1 + 1), none⟩ = _ := hcell (4 * k + 3) (by omega)
      have b0 := hb (4 * k) (by omega)
      have b1 := hb (4 * k + 1) (by omega)
      have b2 := hb (4 * k + 2) (by omega)
      have b3 := hb (4 * k + 3) (by omega)
      have cA := hr.cell (i := k) (by omega)
      have fA := hr.frozen k
      clear hcell hc
      have hne : ¬ ab = w.heap.size := by omega
      have p0 : (0 : Int) ≤ 4 * (k : Int) := by omega
      have p1 : (0 : Int) ≤ 4 * (k : Int) + 1 := by omega
      have p2 : (0 : Int) ≤ 4 * (k : Int) + 2 := by omega
      have p3 : (0 : Int) ≤ 4 * (k : Int) + 3 := by omega
      have q0 : 4 * (k : Int) < 64 := by omega
      have q1 : 4 * (k : Int) + 1 < 64 := by omega
      have q2 : 4 * (k : Int) + 2 < 64 := by omega
      have q3 : 4 * (k : Int) + 3 < 64 := by omega
      have qk : (k : Int) < 64 := by omega
      have e0 : IntKind.i64.wrap (4 * (k : Int)) = 4 * (k : Int) := IntWalk.i64_in _ (by omega)
      have e1 : IntKind.i64.wrap (4 * (k : Int) + 1) = 4 * (k : Int) + 1 := IntWalk.i64_in _ (by omega)
      have e2 : IntKind.i64.wrap (4 * (k : Int) + 2) = 4 * (k : Int) + 2 := IntWalk.i64_in _ (by omega)
      have e3 : IntKind.i64.wrap (4 * (k : Int) + 3) = 4 * (k : Int) + 3 := IntWalk.i64_in _ (by omega)
      have n0 : (4 * (k : Int)).toNat = 4 * k := by omega
      have n1 : (4 * (k : Int) + 1).toNat = 4 * k + 1 := by omega
      have n2 : (4 * (k : Int) + 2).toNat = 4 * k + 2 := by omega
      have n3 : (4 * (k : Int) + 3).toNat = 4 * k + 3 := by omega
      go_wp2
      go_still_tail 34, (by kernel_rfl)
      change wpList _ _ _ _ _ wr.drew
      generalize hv : wr.drew = wd
      have hrd : wd.rowIs w.heap.size 262 64 (RW.wrow b k) := by rw [← hv]; exact hr.drew
      have hBd : Below w.heap.size w wd := by rw [← hv]; exact hB.drew
      have cAd := hrd.cell (i := k) (by omega)
      have fAd := hrd.frozen k
      clear hv cA fA
      go_wp2
      go_roundw
      case rel =>
        exact ⟨k + 1, by omega, by go_num, (hrd.set k _).congr (RW.wrow_step16 b k hlt), hBd.setCell (by simp) _⟩
      case measure => simp [intOf]; omega
    · have hr16 : wr.rowIs w.heap.size 262 64 (RW.wrow b 16) := by rw [show 16 = k by omega]; exact hr
      clear hr
      go_wp2
      clear hr0 hB0
      obtain ⟨w1, rfl⟩ : ∃ w1 : World, w1 = wr := ⟨_, rfl⟩
      go_loopw [4] (fun i wr => ∃ k : Nat, 16 ≤ k ∧ k ≤ 64 ∧ i = .int .i64 k ∧ wr.rowIs w.heap.size 262 64 (RW.wrow b k) ∧ Below w.heap.size w wr) (fun i _ => 64 - (intOf i).toNat)
      case atStart => exact ⟨16, by omega, by omega, rfl, hr16, hB⟩
      case round =>
        clear hr16 hB hc
        obtain ⟨k, hk16, hk, rfl, hr, hB⟩ := hrel
        by_cases hlt : k < 64
        · have p1 : (0 : Int) ≤ (k : Int) - 15 := by omega
          have p2 : (0 : Int) ≤ (k : Int) - 2 := by omega
          have p3 : (0 : Int) ≤ (k : Int) - 16 := by omega
          have p4 : (0 : Int) ≤ (k : Int) - 7 := by omega
          have q1 : (k : Int) - 15 < 64 := by omega
          have q2 : (k : Int) - 2 < 64 := by omega
          have q3 : (k : Int) - 16 < 64 := by omega
          have q4 : (k : Int) - 7 < 64 := by omega
          have qk : (k : Int) < 64 := by omega
          have e1 : IntKind.i64.wrap ((k : Int) - 15) = (k : Int) - 15 := IntWalk.i64_in _ (by omega)
          have e2 : IntKind.i64.wrap ((k : Int) - 2) = (k : Int) - 2 := IntWalk.i64_in _ (by omega)
          have e3 : IntKind.i64.wrap ((k : Int) - 16) = (k : Int) - 16 := IntWalk.i64_in _ (by omega)
          have e4 : IntKind.i64.wrap ((k : Int) - 7) = (k : Int) - 7 := IntWalk.i64_in _ (by omega)
          have n1 : ((k : Int) - 15).toNat = k - 15 := by omega
          have n2 : ((k : Int) - 2).toNat = k - 2 := by omega
          have n3 : ((k : Int) - 16).toNat = k - 16 := by omega
          have n4 : ((k : Int) - 7).toNat = k - 7 := by omega
          have hw : ∀ j, j < k → RW.wrow b k j = .int .u32 (RW.wf b j) := fun j hj => by unfold RW.wrow; rw [if_pos hj]
          have c1 := hr.cell (i := k - 15) (by omega)
          have c2 := hr.cell (i := k - 2) (by omega)
          have c3 := hr.cell (i := k - 16) (by omega)
          have c4 := hr.cell (i := k - 7) (by omega)
          rw [hw _ (by omega)] at c1 c2 c3 c4
          have ck := hr.cell (i := k) hlt
          have fk := hr.frozen k
          clear hw
          have hlA := hr.lt
          go_wp2
          go_quiet (fail)
          go_wp2
          generalize hv : wr.drewN _ = wd
          have hrd : wd.rowIs w.heap.size 262 64 (RW.wrow b k) := by rw [← hv]; exact hr
          have hBd : Below w.heap.size w wd := by rw [← hv]; exact ⟨hB.os, hB.tape, hB.output, hB.size, hB.block⟩
          clear hv hr hB c1 c2 c3 c4 ck fk hlA
          have hw : ∀ j, j < k → RW.wrow b k j = .int .u32 (RW.wf b j) := fun j hj => by unfold RW.wrow; rw [if_pos hj]
          have c1 := hrd.cell (i := k - 15) (by omega)
          have c2 := hrd.cell (i := k - 2) (by omega)
          have c3 := hrd.cell (i := k - 16) (by omega)
          have c4 := hrd.cell (i := k - 7) (by omega)
          rw [hw _ (by omega)] at c1 c2 c3 c4
          have ck := hrd.cell (i := k) (by omega)
          have fk := hrd.frozen k
          clear hw
          have hlA := hrd.lt
          have p3 : (0 : Int) ≤ (k : Int) - 16 := by omega
          have p4 : (0 : Int) ≤ (k : Int) - 7 := by omega
          have q3 : (k : Int) - 16 < 64 := by omega
          have q4 : (k : Int) - 7 < 64 := by omega
          have qk : (k : Int) < 64 := by omega
          have e3 : IntKind.i64.wrap ((k : Int) - 16) = (k : Int) - 16 := IntWalk.i64_in _ (by omega)
          have e4 : IntKind.i64.wrap ((k : Int) - 7) = (k : Int) - 7 := IntWalk.i64_in _ (by omega)
          have n3 : ((k : Int) - 16).toNat = k - 16 := by omega
          have n4 : ((k : Int) - 7).toNat = k - 7 := by omega
          have r3 : (16 : Int) ≤ (k : Int) := by omega
          have r4 : (7 : Int) ≤ (k : Int) := by omega
          have hs3 : ∀ v, (wd.setCell ⟨w.heap.size, k, none⟩ v).cell? ⟨w.heap.size, k - 16, none⟩ = some (.int .u32 (RW.wf b (k - 16))) := fun v => (World.cell?_setCell_other _ _ _ _ (by intro e; injection e with _ e; omega)).trans c3
          have hs4 : ∀ v, (wd.setCell ⟨w.heap.size, k, none⟩ v).cell? ⟨w.heap.size, k - 7, none⟩ = some (.int .u32 (RW.wf b (k - 7))) := fun v => (World.cell?_setCell_other _ _ _ _ (by intro e; injection e with _ e; omega)).trans c4
          go_region_held3 (fun w' => w'.cell? ⟨w.heap.size, k - 16, none⟩ = some (.int .u32 (RW.wf b (k - 16))) ∧ w'.cell? ⟨w.heap.size, k - 7, none⟩ = some (.int .u32 (RW.wf b (k - 7))))
            (go_keep)
            (first | ((with_reducible refine (mixed2 (RW.wf b (k - 15)) 7 18 _ 2 (by decide) _ ?_ ?_).mono ?_); (simp); (simp); rintro e w' ⟨rfl, rfl⟩) | ((with_reducible refine (mixed2 (RW.wf b (k - 2)) 17 19 _ 2 (by decide) _ ?_ ?_).mono ?_); (simp); (simp); rintro e w' ⟨rfl, rfl⟩))
          all_goals
            go_wp2
            go_roundw
            case rel =>
              refine ⟨k + 1, by omega, by omega, by go_num, ?_, ?_⟩
              · first
                | exact ((((hrd.set k _).congr (RW.wrow_step b k hk16)).alloc _).alloc _).drew
              · exact (((hBd.setCell (by simp) _).alloc (by simp; omega) _).alloc (by simp; omega) _).drew
            case measure => simp [intOf]; omega
        · obtain rfl : k = 64 := by omega
          obtain ⟨cs, hcs, hsz, hf⟩ := hr
          have he : cs = ((List.range 64).map fun j => Value.int .u32 (RW.wf b j)).toArray := by
            apply Array.ext
            · rw [hsz]; simp
            · intro i h1 h2
              have := hf i (by omega)
              rw [Array.getElem?_eq_getElem h1] at this
              simp at this ⊢
              rw [this]; unfold RW.wrow; rw [if_pos (by omega)]
          have hone : cs.all (·.oneCell') = true := by
            rw [Array.all_eq_true]; intro i hi
            have := hf i (by omega)
            rw [Array.getElem?_eq_getElem hi] at this
            simp at this; rw [this]; rfl
          have hi1 : (Tryz.prog.info? 262).map (·.size) = some cs.size := by rw [hsz]; kernel_rfl
          have heH := hide he
          have hszH := hide hsz
          have hcsH := hide hcs
          clear he hsz hcs hf
          go_wp2_with (first | (refine wpList_load_row rfl 262 (.tmp 2) rfl w.heap.size rfl 262 cs (0, 0) _ hcsH.out Tryz.underlying262 rfl hi1 ?_) | (refine wpList_store_row rfl 262 (.tmp 2) (.tmp 83) rfl w.heap.size cs rfl rfl 262 cs hcsH.out hi1 rfl hone ?_))
          refine bodyPost_ret (results_cell_row rfl _ _ w.heap.size 262 cs (0, 0) _ rfl (setRow_heap _ _ _ _ _ _ hcsH.out) Tryz.underlying262 rfl hi1) rfl ⟨by rw [heH.out], RW.below_setRow hB (Nat.le_refl _) _⟩
end Go.Proofs.YtllbphanfahkkaaGreatDoor

/-
  digest.words.add: one block goes into the eight words; beside them only new memory is written.
-/
namespace Go.Proofs.YtllbphanfahkkaaGreatDoor
open Go.RowKit
theorem run_index_agg {P : Program} (t e : TypeId) (n : Nat) (cs : Array Value) (k : IntKind) (i : Nat) (ii : IntKind) (v : Value) (ht : P.underlying t = some (.array n e)) (he : P.underlying e = some (.int ii)) (hs : (P.info? e).map (·.size) = some 1)
    (hi : i < n) (hc : cs[i]? = some v) (w : World) : (Instr.index t (.agg cs) (.int k (i : Int))).run P w = .ok v w := by
  cases hq : P.info? e with
  | none => simp [hq] at hs
  | some inf =>
    have h1 : inf.size = 1 := by simpa [hq] using hs
    simp [Instr.index, asIntOf, run_underlying ht, hi, part, isAgg, run_underlying he, sizeOf, typeInfo, hq, h1, hc]
namespace RW
/-- the words of a state, as cells -/
def vrow (V : Nat → Int) : Array Value := #[.int .u32 (V 0), .int .u32 (V 1), .int .u32 (V 2), .int .u32 (V 3), .int .u32 (V 4), .int .u32 (V 5), .int .u32 (V 6), .int .u32 (V 7)]
theorem vrow_one (V : Nat → Int) : (vrow V).all (·.oneCell') = true := by simp [vrow, Value.oneCell']
def tOf (V : Nat → Int) (k x : Int) : Int :=
  V 7 + mixF (V 4) [6, 11, 25] + bits .xor .u32 (bits .and .u32 (V 4) (V 5)) (bits .and .u32 (bits .xor .u32 IntKind.u32.max (V 4)) (V 6)) + k + x
def uOf (V : Nat → Int) : Int :=
  mixF (V 0) [2, 13, 22] + bits .xor .u32 (bits .xor .u32 (bits .and .u32 (V 0) (V 1)) (bits .and .u32 (V 0) (V 2))) (bits .and .u32 (V 1) (V 2))
def vstep (V : Nat → Int) (k x : Int) : Nat → Int
  | 0 => (tOf V k x + uOf V) % 4294967296
  | 1 => V 0
  | 2 => V 1
  | 3 => V 2
  | 4 => (V 3 + tOf V k x) % 4294967296
  | 5 => V 4
  | 6 => V 5
  | _ => V 6
def comp (H K W : Nat → Int) : Nat → Nat → Int
  | 0 => H
  | i + 1 => vstep (comp H K W i) (K i) (W i)
theorem vrow_get (X : Nat → Int) (j : Nat) (h : j < 8) : (vrow X)[j]? = some (.int .u32 (X j)) := by
  match j, h with
  | 0, _ => rfl
  | 1, _ => rfl
  | 2, _ => rfl
  | 3, _ => rfl
  | 4, _ => rfl
  | 5, _ => rfl
  | 6, _ => rfl
  | 7, _ => rfl
theorem vrow_set (X Y : Nat → Int) (j : Nat) (v : Int) (h : j < 8) (hj : Y j = v) (ho : ∀ i, i < 8 → i ≠ j → Y i = X i) : (vrow X).setIfInBounds j (.int .u32 v) = vrow Y := by
  apply Array.ext_getElem?
  intro i
  by_cases hi : i < 8
  · rw [Array.getElem?_setIfInBounds, vrow_get Y i hi]
    by_cases hij : j = i
    · subst hij; rw [if_pos rfl, if_pos (show j < (vrow X).size from h), hj]
    · rw [if_neg hij, vrow_get X i hi, ho i hi (by omega)]
  · rw [Array.getElem?_eq_none (by simp [vrow]; omega), Array.getElem?_eq_none (by simp [vrow]; omega)]
def hnew (H K W : Nat → Int) (j : Nat) : Int := (H j + comp H K W 64 j) % 4294967296
/-- the first j words are already new -/
def hrow (H K W : Nat → Int) (n j : Nat) : Int := if j < n then hnew H K W j else H j
def WsOk (ws : Array Value) (W : Nat → Int) : Prop := ws.size = 64 ∧ ∀ i, i < 64 → ws[i]? = some (.int .u32 (W i))
theorem wsOk_range (W : Nat → Int) : WsOk (((List.range 64).map fun j => Value.int .u32 (W j)).toArray) W := by
  refine ⟨by simp, fun i hi => ?_⟩
  simp [hi]
theorem WsOk.one {ws : Array Value} {W : Nat → Int} (h : WsOk ws W) : ws.all (·.oneCell') = true := by
  rw [Array.all_eq_true]; intro i hi
  have := h.2 i (by have := h.1; omega)
  rw [Array.getElem?_eq_getElem hi] at this
  simp at this; rw [this]; rfl
theorem WsOk.get {ws : Array Value} {W : Nat → Int} (h : WsOk ws W) (i : Nat) (hi : i < 64) : ws[i]? = some (.int .u32 (W i)) := h.2 i hi
theorem laid_row {B : Nat} {w w1 w2 : World} {z cs : Array Value} {t : TypeId} (h : Below B w w1) (hB : B ≤ w1.heap.size) (e : w2 = (w1.alloc (.cells z t)).setRow w1.heap.size cs) :
    Below B w w2 ∧ w2.heap[w1.heap.size]? = some (.cells cs t (0, 0)) ∧ w2.heap.size = w1.heap.size + 1 := by
  subst e
  exact ⟨below_setRow (h.alloc hB _) hB _, setRow_heap _ _ _ _ _ _ (heap_alloc_new w1 _), by simp [World.setRow]⟩
theorem laid_old {w1 w2 : World} {z cs : Array Value} {t : TypeId} {i : Nat} (e : w2 = (w1.alloc (.cells z t)).setRow w1.heap.size cs) (hi : i < w1.heap.size) : w2.heap[i]? = w1.heap[i]? := by
  subst e
  simp only [World.setRow, Array.getElem?_modify]
  rw [if_neg (by omega)]; exact Below.heap_alloc w1 _ i hi
theorem two_sets (w : World) (g : Nat) (cs : Array Value) (t : TypeId) (i j : Nat) (h : w.heap[g]? = some (.cells cs t (0, 0))) (u v : Value) :
    ((w.setCell ⟨g, i, none⟩ u).setCell ⟨g, j, none⟩ v).heap[g]? = some (.cells ((cs.setIfInBounds i u).setIfInBounds j v) t (0, 0)) :=
  heap_setCell_same _ g j _ t v (heap_setCell_same w g i cs t u h)
end RW
def KLaid (w : World) (ks : Array Value) : Prop := ∃ t fr, w.heap[4]? = some (.cells ks t fr)
set_option maxRecDepth 10000 in
set_option maxHeartbeats 2000000 in
theorem add_any (H K : Nat → Int) (b : Nat → Int) (g ab ao : Nat) (cap : Nat) (ks : Array Value) (hb : ∀ i, i < 64 → 0 ≤ b i ∧ b i ≤ 255) (w : World) (hab : ab < w.heap.size)
    (hc : ∀ i, i < 64 → w.cell? ⟨ab, ao + i, none⟩ = some (.int .u8 (b i))) (hK : KLaid w ks) (hks : RW.WsOk ks K)
    (hH : w.heap[g]? = some (.cells (RW.vrow H) 237 (0, 0))) :
    Calls Tryz.prog 171 #[.pointer (some ⟨g, 0, none⟩), .slice (some ⟨ab, ao, none⟩) 64 cap] w fun e w' => e = .returned (.tuple #[]) ∧ w'.heap[g]? = some (.cells (RW.vrow (RW.hnew H K (RW.wf b))) 237 (0, 0)) ∧ w.grownBy w' (some g) := by
  have hgl : g < w.heap.size := (Array.getElem?_eq_some_iff.1 hH).1
  obtain ⟨tk, fk, hKh⟩ := hK
  have hsch := hide (schedule_any b ab ao cap hb w hab hc)
  have hi114 : (Tryz.prog.info? 262).map (·.size) = some 64 := by kernel_rfl
  have hi96 : (Tryz.prog.info? 237).map (·.size) = some 8 := by kernel_rfl
  have hgk : 4 < w.heap.size := (Array.getElem?_eq_some_iff.1 hKh).1
  go_enter Tryz.func171, Tryz.ntmps171
  go_wp2_with (first | (go_at_call 189; refine hsch.out.mono ?_; rintro e w1 ⟨rfl, hB1⟩; obtain ⟨ws, hws⟩ : ∃ ws : Array Value, ws = (((List.range 64).map fun j => Value.int .u32 (RW.wf b j)).toArray) := ⟨_, rfl⟩; rw [← hws]; have hwo := RW.wsOk_range (RW.wf b); rw [← hws] at hwo; clear hws) | (refine wpList_store_row rfl 262 (.tmp 4) (.tmp 14) rfl w1.heap.size ws rfl rfl 262 _ (heap_alloc_new _ _) (by rw [hwo.1]; exact hi114) (by rw [hwo.1]; rfl) hwo.one ?_; generalize hw2 : World.setRow _ _ _ = w2; obtain ⟨hB2, hx2, hs2'⟩ := RW.laid_row hB1 hB1.size hw2.symm; have hs2 : w1.heap.size < w2.heap.size := (by omega); clear hs2'; clear hw2; have hH2 := (hB2.block g hgl).trans hH; have hK2 := (hB2.block 4 hgk).trans hKh) | (refine wpList_load_row rfl 237 (.tmp 16) rfl g rfl 237 (RW.vrow H) (0, 0) _ hH2 Tryz.underlying237 rfl hi96 ?_) | (refine wpList_store_row rfl 237 (.tmp 5) (.tmp 17) rfl w2.heap.size (RW.vrow H) rfl rfl 237 _ (heap_alloc_new _ _) hi96 rfl (RW.vrow_one H) ?_; generalize hw3 : World.setRow _ _ _ = w3; obtain ⟨hB3, hx3, hs3'⟩ := RW.laid_row hB2 hB2.size hw3.symm; have hs3 : w2.heap.size < w3.heap.size := (by omega); clear hs3'; have hws3 : w3.heap[w1.heap.size]? = _ := (RW.laid_old hw3.symm (by omega)).trans hx2; clear hw3; have hK3 := (hB3.block 4 hgk).trans hKh) | (refine wpList_load_row rfl 262 (.global 4) rfl 4 rfl tk ks fk _ hK3 Tryz.underlying262 rfl (by rw [hks.1]; exact hi114) ?_))
  have hu94 : (Tryz.prog.info? 119).map (·.size) = some 1 := by kernel_rfl
  clear hsch hK3 hK2 hH2 hx2 hi96 hi114
  go_loopw [19] (fun i wr => ∃ k : Nat, k ≤ 64 ∧ i = .int .i64 k ∧ wr.heap[w2.heap.size]? = some (.cells (RW.vrow (RW.comp H K (RW.wf b) k)) 237 (0, 0)) ∧ wr.heap[w1.heap.size]? = some (.cells ws 262 (0, 0)) ∧ Below w.heap.size w wr)
    (fun i _ => 64 - (intOf i).toNat)
  case atStart => exact ⟨0, Nat.zero_le _, rfl, hx3, hws3, hB3⟩
  case round =>
    clear hx3 hws3 hB3 hc
    obtain ⟨k, hk, rfl, hv, hw, hB⟩ := hrel
    by_cases hlt : k < 64
    · have hix := fun w' => run_index_agg (P := Tryz.prog) 262 119 64 ks .i64 k .u32 (.int .u32 (K k)) Tryz.underlying262 Tryz.underlying119 hu94 hlt (hks.get k hlt) w'
      obtain ⟨V, hV⟩ : ∃ V, V = RW.comp H K (RW.wf b) k := ⟨_, rfl⟩
      have hVs : RW.comp H K (RW.wf b) (k + 1) = RW.vstep V (K k) (RW.wf b k) := by rw [hV]; rfl
      rw [← hV] at hv
      have hVsH := hide hVs
      clear hVs hV
      have c0 : wr.cell? ⟨w2.heap.size, 0, none⟩ = some (.int .u32 (V 0)) := cell_of_row wr w2.heap.size 0 _ _ _ hv
      have c4 : wr.cell? ⟨w2.heap.size, 4, none⟩ = some (.int .u32 (V 4)) := cell_of_row wr w2.heap.size 4 _ _ _ hv
      have hvH := hide hv
      have hwH := hide hw
      clear hv hw
      go_wp2
      go_quiet (fail)
      go_wp2
      generalize hd : wr.drewN _ = wd
      have hv : wd.heap[w2.heap.size]? = some (.cells (RW.vrow V) 237 (0, 0)) := by rw [← hd]; exact hvH.out
      have hw : wd.heap[w1.heap.size]? = some (.cells ws 262 (0, 0)) := by rw [← hd]; exact hwH.out
      have hBd : Below w.heap.size w wd := by rw [← hd]; exact ⟨hB.os, hB.tape, hB.output, hB.size, hB.block⟩
      clear hd hvH hwH hB c0 c4 hix
      have c1 : wd.cell? ⟨w2.heap.size, 1, none⟩ = some (.int .u32 (V 1)) := cell_of_row wd w2.heap.size 1 _ _ _ hv
      have c2 : wd.cell? ⟨w2.heap.size, 2, none⟩ = some (.int .u32 (V 2)) := cell_of_row wd w2.heap.size 2 _ _ _ hv
      have c5 : wd.cell? ⟨w2.heap.size, 5, none⟩ = some (.int .u32 (V 5)) := cell_of_row wd w2.heap.size 5 _ _ _ hv
      have c6 : wd.cell? ⟨w2.heap.size, 6, none⟩ = some (.int .u32 (V 6)) := cell_of_row wd w2.heap.size 6 _ _ _ hv
      have c7 : wd.cell? ⟨w2.heap.size, 7, none⟩ = some (.int .u32 (V 7)) := cell_of_row wd w2.heap.size 7 _ _ _ hv
      have cw : wd.cell? ⟨w1.heap.size, k, none⟩ = some (.int .u32 (RW.wf b k)) := (cell_of_row wd w1.heap.size k _ _ _ hw).trans (hwo.get k hlt)
      have qk : (k : Int) < 64 := by omega
      have lv : w2.heap.size < wd.heap.size := (Array.getElem?_eq_some_iff.1 hv).1
      have hvH := hide hv
      have hwH := hide hw
      clear hv hw
      go_region_held3 (fun w' => w'.cell? ⟨w2.heap.size, 7, none⟩ = some (.int .u32 (V 7)) ∧ w'.cell? ⟨w2.heap.size, 5, none⟩ = some (.int .u32 (V 5)) ∧ w'.cell? ⟨w2.heap.size, 6, none⟩ = some (.int .u32 (V 6)) ∧ w'.cell? ⟨w1.heap.size, k, none⟩ = some (.int .u32 (RW.wf b k)))
        (go_keep) (first | ((with_reducible refine (mixed3 (V 4) 6 11 25 _ 3 (by decide) _ ?_ ?_ ?_).mono ?_); (simp); (simp); (simp); rintro e w' ⟨rfl, rfl⟩))
      go_wp2
      generalize hd2 : World.drew _ = we
      have hBe : Below wd.heap.size wd we := by rw [← hd2]; exact ((Below.refl _ _).alloc (Nat.le_refl _) _).drew
      clear hd2 c5 c6 c7 cw
      have lw : w1.heap.size < wd.heap.size := by omega
      have hv := (hBe.block w2.heap.size lv).trans hvH.out
      have hw := (hBe.block w1.heap.size lw).trans hwH.out
      have hBw : Below w.heap.size w we := hBd.trans (hBe.mono hBd.size)
      have lve : w2.heap.size < we.heap.size := by have := hBe.size; omega
      clear c1 c2 hvH hwH
      have c1 : we.cell? ⟨w2.heap.size, 1, none⟩ = some (.int .u32 (V 1)) := cell_of_row we w2.heap.size 1 _ _ _ hv
      have c2 : we.cell? ⟨w2.heap.size, 2, none⟩ = some (.int .u32 (V 2)) := cell_of_row we w2.heap.size 2 _ _ _ hv
      have hvH := hide hv
      have hwH := hide hw
      clear hv hw
      go_region_held3 (fun w' => w'.cell? ⟨w2.heap.size, 1, none⟩ = some (.int .u32 (V 1)) ∧ w'.cell? ⟨w2.heap.size, 2, none⟩ = some (.int .u32 (V 2)))
        (go_keep) (first | ((with_reducible refine (mixed3 (V 0) 2 13 22 _ 3 (by decide) _ ?_ ?_ ?_).mono ?_); (simp); (simp); (simp); rintro e w' ⟨rfl, rfl⟩))
      go_wp2
      generalize hd3 : World.drew _ = wf
      have hBf : Below we.heap.size we wf := by rw [← hd3]; exact ((Below.refl _ _).alloc (Nat.le_refl _) _).drew
      clear hd3 c1 c2
      have hv := (hBf.block w2.heap.size lve).trans hvH.out
      have hw := (hBf.block w1.heap.size (by omega)).trans hwH.out
      have hB := hBw.trans (hBf.mono hBw.size)
      clear hvH hwH hBw hBf
      go_still_tail 2, (by kernel_rfl)
      change wpList _ _ _ _ _ wf.drew
      have hBs : w.heap.size ≤ w2.heap.size := by have := hB1.size; omega
      refine wpList_copy_splice rfl (.tmp 69) (.tmp 70) 120 120 rfl 119 Tryz.underlying120 hu94 _ _ 7 7 7 8 rfl rfl w2.heap.size 1 [.int .u32 (V 0), .int .u32 (V 1), .int .u32 (V 2), .int .u32 (V 3), .int .u32 (V 4), .int .u32 (V 5), .int .u32 (V 6), .int .u32 (V 7)] 237 hv
        [.int .u32 (V 0), .int .u32 (V 1), .int .u32 (V 2), .int .u32 (V 3), .int .u32 (V 4), .int .u32 (V 5), .int .u32 (V 6)] rfl (fun _ => ⟨rfl, _, rfl, ?hcs⟩) (by simp) ?hone w2.heap.size wf (Below.refl _ wf).drew (Nat.le_refl _) ?_
      case hcs =>
        intro j v hj
        have hj7 : j < 7 := (List.getElem?_eq_some_iff.1 hj).1
        have hcj := cell_of_row wf w2.heap.size j _ _ _ hv
        have : (⟨w2.heap.size, 0, none⟩ : Addr).add j = ⟨w2.heap.size, j, none⟩ := by unfold Addr.add; split <;> simp_all
        rw [this]
        refine hcj.trans ?_
        rw [← hj]
        match j, hj7 with
        | 0, _ => rfl
        | 1, _ => rfl
        | 2, _ => rfl
        | 3, _ => rfl
        | 4, _ => rfl
        | 5, _ => rfl
        | 6, _ => rfl
      case hone => intro v hv; simp at hv; rcases hv with h | h | h | h | h | h | h <;> (subst h; rfl)
      intro w4 h4 hB4
      have h5 : w4.heap[w2.heap.size]? = some (.cells #[.int .u32 (V 0), .int .u32 (V 0), .int .u32 (V 1), .int .u32 (V 2), .int .u32 (V 3), .int .u32 (V 4), .int .u32 (V 5), .int .u32 (V 6)] 237 (0, 0)) := h4.out
      clear h4
      have hw4 := (hB4.block w1.heap.size hs2).trans hw
      have hB4w := hB.trans (hB4.mono hBs)
      have c4 : w4.cell? ⟨w2.heap.size, 4, none⟩ = some (.int .u32 (V 3)) := cell_of_row w4 w2.heap.size 4 _ _ _ h5
      have f4 := frozen_of_row w4 w2.heap.size 4 _ _ h5
      have f0 := frozen_of_row w4 w2.heap.size 0 _ _ h5
      have c0 : w4.cell? ⟨w2.heap.size, 0, none⟩ = some (.int .u32 (V 0)) := cell_of_row w4 w2.heap.size 0 _ _ _ h5
      have h5H := hide h5
      clear h5
      go_wp2
      go_roundw
      case rel =>
        refine ⟨k + 1, by omega, by go_num, ?_, ?_, ?_⟩
        · rw [hVsH.out]
          refine (RW.two_sets w4 w2.heap.size _ _ _ _ h5H.out _ _).trans ?_
          rfl
        · exact (Below.heap_setCell _ _ _ _ (by simp; omega)).trans ((Below.heap_setCell _ _ _ _ (by simp; omega)).trans hw4)
        · exact (hB4w.setCell hBs _).setCell hBs _
      case measure => simp [intOf]; omega
    · obtain ⟨k', hk'⟩ : ∃ k' : Nat, k' = k := ⟨_, rfl⟩
      have hv64 : wr.heap[w2.heap.size]? = some (.cells (RW.vrow (RW.comp H K (RW.wf b) 64)) 237 (0, 0)) := by rw [show 64 = k by omega]; exact hv
      clear hv hw hk'
      have hg0 : w.grownBy wr (some g) := ⟨hB.os, hB.tape, hB.output, hB.size, fun i hi _ => hB.block i hi⟩
      have hHr := (hB.block g hgl).trans hH
      clear hB
      go_wp2
      obtain ⟨w5, rfl⟩ : ∃ w5 : World, w5 = wr := ⟨_, rfl⟩
      go_loopw [82] (fun i wr => ∃ j : Nat, j ≤ 8 ∧ i = .int .i64 j ∧ wr.heap[g]? = some (.cells (RW.vrow (RW.hrow H K (RW.wf b) j)) 237 (0, 0)) ∧ wr.heap[w2.heap.size]? = some (.cells (RW.vrow (RW.comp H K (RW.wf b) 64)) 237 (0, 0)) ∧ w.grownBy wr (some g))
        (fun i _ => 8 - (intOf i).toNat)
      case atStart => exact ⟨0, Nat.zero_le _, rfl, hHr, hv64, hg0⟩
      case round =>
        clear hHr hv64 hg0
        obtain ⟨j, hj, rfl, hh, hv, hg⟩ := hrel
        by_cases hjl : j < 8
        · have q8 : (j : Int) < 8 := by omega
          have ch : wr.cell? ⟨g, j, none⟩ = some (.int .u32 (RW.hrow H K (RW.wf b) j j)) := (cell_of_row wr g j _ _ _ hh).trans (RW.vrow_get _ j hjl)
          have cv : wr.cell? ⟨w2.heap.size, j, none⟩ = some (.int .u32 (RW.comp H K (RW.wf b) 64 j)) := (cell_of_row wr w2.heap.size j _ _ _ hv).trans (RW.vrow_get _ j hjl)
          have hhH := hide hh
          have hvH := hide hv
          clear hh hv
          go_wp2
          go_still_tail 11, (by kernel_rfl)
          change wpList _ _ _ _ _ wr.drew
          generalize hd : wr.drew = wd
          have hh : wd.heap[g]? = some (.cells (RW.vrow (RW.hrow H K (RW.wf b) j)) 237 (0, 0)) := by rw [← hd]; exact hhH.out
          have hv : wd.heap[w2.heap.size]? = some (.cells (RW.vrow (RW.comp H K (RW.wf b) 64)) 237 (0, 0)) := by rw [← hd]; exact hvH.out
          have hgd : w.grownBy wd (some g) := by rw [← hd]; exact ⟨hg.os, hg.tape, hg.output, hg.size, hg.block⟩
          clear hd hhH hvH hg ch cv
          have ch : wd.cell? ⟨g, j, none⟩ = some (.int .u32 (RW.hrow H K (RW.wf b) j j)) := (cell_of_row wd g j _ _ _ hh).trans (RW.vrow_get _ j hjl)
          have fh := frozen_of_row wd g j _ _ hh
          have hhH := hide hh
          have hvH := hide hv
          clear hh hv
          go_wp2
          go_roundw
          case rel =>
            refine ⟨j + 1, by omega, by go_num, ?_, ?_, ?_⟩
            · refine (heap_setCell_same wd g j _ _ _ hhH.out).trans ?_
              rw [RW.vrow_set _ (RW.hrow H K (RW.wf b) (j + 1)) j _ hjl]
              · unfold RW.hrow; rw [if_pos (by omega), if_neg (by omega)]; rfl
              · intro i _ hne; unfold RW.hrow
                by_cases h1 : i < j
                · rw [if_pos h1, if_pos (by omega)]
                · rw [if_neg h1, if_neg (by omega)]
            · exact (Below.heap_setCell _ _ _ _ (by have := hB1.size; simp; omega)).trans hvH.out
            · exact ⟨hgd.os, hgd.tape, hgd.output, by simpa [World.setCell] using hgd.size, fun i hi hne => (Below.heap_setCell _ _ _ _ (by intro e; exact hne (by rw [e]))).trans (hgd.block i hi hne)⟩
          case measure => simp [intOf]; omega
        · go_wp2
          go_end0
          refine ⟨rfl, ?_, hg⟩
          rw [hh, show j = 8 by omega]
          rfl
end Go.Proofs.YtllbphanfahkkaaGreatDoor

/-
  slices.Chunk over bytes (its closure, for whatever each round does), and digest.words.digest: what they do; only new memory is written.
-/
namespace Go.Proofs.YtllbphanfahkkaaGreatDoor
open Go.RowKit Go.Shelf
attribute [local go_sem] Oper.semAt_some
set_option maxRecDepth 100000 in
set_option maxHeartbeats 1000000 in
theorem chunk1 (F : Fence) (n : Nat) (h6 : F.fn 188) (hro : F.round = none) (hn : 1 ≤ n) (l b1 b2 g m cap : Nat) (J : Nat → World → Prop)
    (hY : ∀ c W, c < m → J c W → YieldAt F (n - 1) Tryz.prog l #[.slice (some ⟨g, 64 * c, none⟩) 64 64] W fun e W' =>
      e = .returned (.bool true) ∧ J (c + 1) W' ∧ W'.cell? ⟨b1, 0, none⟩ = W.cell? ⟨b1, 0, none⟩ ∧ W'.cell? ⟨b2, 0, none⟩ = W.cell? ⟨b2, 0, none⟩)
    (hJd : ∀ c W, J c W → J c W.drew)
    (hcap : 64 * m ≤ cap) (hcap2 : cap ≤ 9223372036854775807) (W : World) (hc1 : W.cell? ⟨b1, 0, none⟩ = some (.slice (some ⟨g, 0, none⟩) (64 * m) cap)) (hc2 : W.cell? ⟨b2, 0, none⟩ = some (.int .i64 64)) (h0 : J 0 W) :
    CallsIn F n Tryz.prog 188 #[.func (.yield l) #[] #[], .pointer (some ⟨b1, 0, none⟩), .pointer (some ⟨b2, 0, none⟩)] W fun e W' => (∃ v, e = .returned v) ∧ J m W' := by
  refine callsIn_of_wp Tryz.func188 rfl h6 ?_ hro
  simp only [Tryz.ntmps188, List.size_toArray, List.length_cons, List.length_nil, Nat.reduceAdd, Nat.reduceSub, Array.replicate_succ, Array.replicate_zero, List.push_toArray, List.append_toArray, List.nil_append, List.cons_append]
  gi_wp2
  gi_loopw [4] (fun i wr => ∃ c : Nat, c ≤ m ∧ i = .int .i64 (64 * (c : Int)) ∧ wr.cell? ⟨b1, 0, none⟩ = some (.slice (some ⟨g, 0, none⟩) (64 * m) cap) ∧ wr.cell? ⟨b2, 0, none⟩ = some (.int .i64 64) ∧ J c wr)
    (fun i wr => 64 * m - (intOf i).toNat)
  case atStart => exact ⟨0, Nat.zero_le _, rfl, hc1, hc2, h0⟩
  case round =>
    obtain ⟨c, hc, rfl, h1, h2, hJ⟩ := hrel
    by_cases hlt : c < m
    · have p0 : (0 : Int) ≤ 64 * (c : Int) := by omega
      have p1 : 64 * (c : Int) < 64 * (m : Int) := by omega
      have p2 : 64 * (c : Int) ≤ 64 * (m : Int) := by omega
      have p3 : 64 * (c : Int) + 64 ≤ (cap : Int) := by omega
      have n1 : (64 * (c : Int)).toNat = 64 * c := by omega
      have n2 : (64 * (c : Int) + 64).toNat = 64 * c + 64 := by omega
      have d1 : ¬ ((64 * m - 64 * c : Nat) : Int) < 64 := by omega
      have d2 : ¬ cap = 64 * c := by omega
      have s1 : 64 * c + 64 - 64 * c = 64 := by omega
      have hJd1 := hJd c wr hJ
      have hh1 : wr.drew.cell? ⟨b1, 0, none⟩ = some (.slice (some ⟨g, 0, none⟩) (64 * m) cap) := h1
      have hh2 : wr.drew.cell? ⟨b2, 0, none⟩ = some (.int .i64 64) := h2
      obtain ⟨fn, tmps, assign, body, hy, hR⟩ := hY c wr.drew hlt hJd1
      gi_wp2
      gi_region
      all_goals
        gi_wp2
        refine hR.mono ?_
        rintro e W3 ⟨rfl, hJ3, hk1, hk2⟩
        rw [hh1] at hk1
        rw [hh2] at hk2
        gi_wp2
        go_roundw
        case rel => exact ⟨c + 1, by omega, by go_num, hk1, hk2, hJ3⟩
        case measure => simp [intOf]; omega
    · gi_wp2
      go_end0
      exact ⟨⟨_, rfl⟩, by rw [show m = c by omega]; exact hJ⟩
end Go.Proofs.YtllbphanfahkkaaGreatDoor

/-
  digest.words.digest: the 32 bytes of the eight words; only new memory is written.
-/
namespace Go.Proofs.YtllbphanfahkkaaGreatDoor
open Go.RowKit
namespace RW
def dbyte (H : Nat → Int) (j : Nat) : UInt8 := UInt8.ofNat ((H (j / 4) / 2 ^ (24 - 8 * (j % 4))) % 256).toNat
def dig (H : Nat → Int) : List UInt8 := (List.range 32).map (dbyte H)
def drow (H : Nat → Int) (n j : Nat) : Value := .int .u8 (if j < n then (dbyte H j).toNat else 0)
end RW
theorem RW.drow_set (H : Nat → Int) (m k : Nat) (v : Int) (hv : v = ((RW.dbyte H (4 * m + k)).toNat : Int)) (j : Nat) :
    (if j = 4 * m + k then Value.int .u8 v else RW.drow H (4 * m + k) j) = RW.drow H (4 * m + k + 1) j := by
  unfold RW.drow
  by_cases h1 : j = 4 * m + k
  · subst h1; simp [hv]
  · by_cases h2 : j < 4 * m + k
    · rw [if_neg h1, if_pos h2, if_pos (by omega)]
    · rw [if_neg h1, if_neg h2, if_neg (by omega)]
theorem RW.toNat_ofNat_byte (x : Int) : ((UInt8.ofNat (x % 256).toNat).toNat : Int) = x % 256 := by
  have h1 := Int.emod_nonneg x (show (256 : Int) ≠ 0 by decide)
  have h2 := Int.emod_lt_of_pos x (show (0 : Int) < 256 by decide)
  rw [UInt8.toNat_ofNat', Nat.mod_eq_of_lt (by omega)]
  omega
set_option maxRecDepth 10000 in
set_option maxHeartbeats 1000000 in
theorem digest_any (H : Nat → Int) (hH : ∀ i, i < 8 → 0 ≤ H i ∧ H i < 4294967296) (w : World) :
    Calls Tryz.prog 172 #[.agg (RW.vrow H)] w fun e w' => e = .returned (.string ⟨(RW.dig H).toArray⟩) ∧ Below w.heap.size w w' := by
  have hu94 : (Tryz.prog.info? 119).map (·.size) = some 1 := by kernel_rfl
  have hi96 : (Tryz.prog.info? 237).map (·.size) = some 8 := by kernel_rfl
  have hix : ∀ i : Nat, i < 8 → ∀ w', (Instr.index 237 (.agg (RW.vrow H)) (.int .i64 (i : Int))).run Tryz.prog w' = .ok (.int .u32 (H i)) w' := fun i hi w' => run_index_agg (P := Tryz.prog) 237 119 8 (RW.vrow H) .i64 i .u32 (.int .u32 (H i)) Tryz.underlying237 Tryz.underlying119 hu94 hi (RW.vrow_get H i hi) w'
  unfold RW.vrow at hix
  have hixH := hide hix
  clear hix
  show Calls _ _ #[.agg #[.int .u32 (H 0), .int .u32 (H 1), .int .u32 (H 2), .int .u32 (H 3), .int .u32 (H 4), .int .u32 (H 5), .int .u32 (H 6), .int .u32 (H 7)]] w _
  go_enter Tryz.func172, Tryz.ntmps172
  go_wp2
  have hr0 : ((w.alloc (.cells (RW.vrow H) 237)).alloc (.cells (Array.replicate 32 (.int .u8 0)) 265)).rowIs (w.heap.size + 1) 265 32 (RW.drow H 0) := by
    have := World.rowIs_alloc (w.alloc (.cells (RW.vrow H) 237)) (Array.replicate 32 (.int .u8 0)) 265 (RW.drow H 0) (by
      intro i hi
      have hi' : i < 32 := by simpa using hi
      simp [RW.drow, hi'])
    simpa using this
  have hB0 : Below w.heap.size w ((w.alloc (.cells (RW.vrow H) 237)).alloc (.cells (Array.replicate 32 (.int .u8 0)) 265)) := ((Below.refl _ _).alloc (Nat.le_refl _) _).alloc (by simp) _
  obtain ⟨w0, hw0⟩ : ∃ w0, w0 = (w.alloc (.cells (RW.vrow H) 237)).alloc (.cells (Array.replicate 32 (.int .u8 0)) 265) := ⟨_, rfl⟩
  rw [← hw0] at hr0 hB0
  have hw0' := hw0
  simp only [RW.vrow, Array.replicate_succ, Array.replicate_zero, List.push_toArray, List.nil_append, List.cons_append] at hw0'
  rw [← hw0']
  clear hw0 hw0'
  go_loopw [8] (fun i wr => ∃ m : Nat, m ≤ 8 ∧ i = .int .i64 m ∧ wr.rowIs (w.heap.size + 1) 265 32 (RW.drow H (4 * m)) ∧ Below w.heap.size w wr) (fun i _ => 8 - (intOf i).toNat)
  case atStart => exact ⟨0, Nat.zero_le _, rfl, hr0, hB0⟩
  case round =>
    clear hr0 hB0
    obtain ⟨m, hm, rfl, hr, hB⟩ := hrel
    by_cases hlt : m < 8
    · have hix := hixH.out m hlt
      have hb := hH m hlt
      obtain ⟨wo, rfl⟩ : ∃ wo : World, wo = wr := ⟨_, rfl⟩
      go_wp2
      go_loopw [12] (fun c wr => ∃ k : Nat, k ≤ 4 ∧ c = .int .i64 k ∧ wr.rowIs (w.heap.size + 1) 265 32 (RW.drow H (4 * m + k)) ∧ Below w.heap.size w wr) (fun c _ => 4 - (intOf c).toNat)
      case atStart => exact ⟨0, Nat.zero_le _, rfl, hr, hB⟩
      case round =>
        clear hr hB
        obtain ⟨k, hk, rfl, hr, hB⟩ := hrel
        by_cases hkl : k < 4
        · have p1 : (0 : Int) ≤ 4 * (m : Int) + k := by omega
          have p2 : 4 * (m : Int) + k < 32 := by omega
          have n1 : (4 * (m : Int) + k).toNat = 4 * m + k := by omega
          have cA := hr.cell (i := 4 * m + k) (by omega)
          have fA := hr.frozen (4 * m + k)
          go_wp2
          go_roundw
          case rel =>
            refine ⟨k + 1, by omega, by go_num, (hr.set (4 * m + k) _).congr (fun j _ => RW.drow_set H m k _ ?_ j), hB.setCell (by simp) _⟩
            simp only [RW.dbyte, show (4 * m + k) / 4 = m by omega, show (4 * m + k) % 4 = k by omega]
            exact (RW.toNat_ofNat_byte _).symm
          case measure => simp [intOf]; omega
        · go_wp2
          go_roundw
          case rel => exact ⟨m + 1, by omega, by go_num, by rw [show 4 * (m + 1) = 4 * m + k by omega]; exact hr, hB⟩
          case measure => simp [intOf]; omega
    · have hm8 : m = 8 := by omega
      have hc : ∀ j (hj : j < (RW.dig H).length), wr.cell? ((⟨w.heap.size + 1, 0, none⟩ : Addr).add j) = some (.int .u8 ((RW.dig H)[j].toNat : Int)) := fun j hj => by
        have hj' : j < 32 := by simpa [RW.dig] using hj
        have hc := hr.cell (i := j) hj'
        have he : ((⟨w.heap.size + 1, 0, none⟩ : Addr).add j) = { block := w.heap.size + 1, off := j } := by
          by_cases h0 : j = 0 <;> simp [Addr.add, h0]
        rw [he, hc]
        simp [RW.drow, RW.dig, hm8, hj']
      have hrun := run_convert_bytes_back (P := Tryz.prog) wr 39 9 5 ⟨w.heap.size + 1, 0, none⟩ 32 (RW.dig H) Tryz.underlying39 Tryz.underlying5 Tryz.underlying9 hc
      have hl : (RW.dig H).length = 32 := by simp [RW.dig]
      rw [hl] at hrun
      clear hc hr
      go_wp2
      go_ret
      exact ⟨rfl, hB⟩
end Go.Proofs.YtllbphanfahkkaaGreatDoor

/-
  A row of one-cell elements that the call itself made and of which no cell is frozen, whatever mark lies behind its end ([]byte(s) leaves one): an append of one element.
-/
namespace Go.Proofs.YtllbphanfahkkaaGreatDoor
open Go.RowKit
/-- the slice v, of n elements, lies over a row from block base on -/
def ownsB (w : World) (base : Nat) (e : TypeId) (v : Value) (n : Nat) (xs : List Value) : Prop :=
  xs.length = n ∧ ∃ g cap cur fz, v = .slice (some ⟨g, 0, none⟩) n cap ∧ base ≤ g ∧ w.heap[g]? = some (.cells cur e fz) ∧ (cur.size ≤ fz.1 ∨ fz.2 = 0) ∧ n ≤ cap ∧ cap ≤ maxLen ∧ cur.size = cap ∧ cur.toList.take n = xs
section
variable {P : Program} {w w' : World} {base : Nat} {e : TypeId} {v : Value} {n : Nat} {xs : List Value}
theorem ownsB.lt (h : ownsB w base e v n xs) : ∀ k, v.ownBlock = some k → base ≤ k ∧ k < w.heap.size := by
  obtain ⟨_, g, cap, cur, fz, rfl, hb, hg, _⟩ := h
  intro k hk
  obtain rfl : g = k := by simpa [Value.ownBlock] using hk
  exact ⟨hb, (Array.getElem?_eq_some_iff.1 hg).1⟩
theorem ownsB.form (h : ownsB w base e v n xs) : ∃ g cap, v = .slice (some ⟨g, 0, none⟩) n cap ∧ base ≤ g ∧ g < w.heap.size ∧ n ≤ cap ∧ cap ≤ maxLen := by
  obtain ⟨_, g, cap, cur, fz, rfl, hb, hg, _, h1, h2, _⟩ := h
  exact ⟨g, cap, rfl, hb, (Array.getElem?_eq_some_iff.1 hg).1, h1, h2⟩
theorem ownsB.kept {row : Option Nat} (h : ownsB w base e v n xs) (hg : w.grownBy w' row) (hne : v.ownBlock ≠ row) : ownsB w' base e v n xs := by
  obtain ⟨hl, g, cap, cur, fz, rfl, hb, hh, r⟩ := h
  exact ⟨hl, g, cap, cur, fz, rfl, hb, (hg.block g (Array.getElem?_eq_some_iff.1 hh).1 (by simpa [Value.ownBlock] using hne)).trans hh, r⟩
theorem ownsB.alloc (h : ownsB w base e v n xs) (o : Obj) : ownsB (w.alloc o) base e v n xs := by
  refine h.kept (World.grownBy_alloc w o none) ?_
  obtain ⟨g, cap, rfl, _⟩ := h.form
  simp [Value.ownBlock]
theorem ownsB.block (h : ownsB w base e v n xs) (hb : ∀ g, v.ownBlock = some g → w'.heap[g]? = w.heap[g]?) : ownsB w' base e v n xs := by
  obtain ⟨hl, g, cap, cur, fz, rfl, hbb, hh, r⟩ := h
  exact ⟨hl, g, cap, cur, fz, rfl, hbb, (hb g (by simp [Value.ownBlock])).trans hh, r⟩
theorem ownsB.cell (h : ownsB w base e v n xs) {g cap : Nat} (hv : v = .slice (some ⟨g, 0, none⟩) n cap) (j : Nat) (u : Value) (hj : xs[j]? = some u) : w.cell? ⟨g, j, none⟩ = some u := by
  obtain ⟨hl, g', cap', cur, fz, hv', _, hh, _, _, _, _, ht⟩ := h
  rw [hv] at hv'
  injection hv' with h1
  injection h1 with h1
  injection h1 with h1
  subst h1
  rw [cell_of_row w g j cur e fz hh]
  rw [← ht, List.getElem?_take] at hj
  split at hj
  · simpa using hj
  · cases hj
theorem run_append_room1 (t ty : TypeId) (i : TypeInfo) (ht : P.underlying t = some (.slice e)) (hi : P.info? e = some i) (h1 : i.size = 1)
    (g cap : Nat) (a : Addr) (c : Nat) (u x : Value) (hu : w.cell? a = some u) (hone : u.oneCell' = true) (hroom : n + 1 ≤ cap) (hx : w.cell? ⟨g, n, none⟩ = some x) (hf : w.frozen? ⟨g, n, none⟩ = false) :
    (Builtin.append_ #[t, t] ty #[.slice (some ⟨g, 0, none⟩) n cap, .slice (some a) 1 c]).run P w = .ok (.slice (some ⟨g, 0, none⟩) (n + 1) cap) (w.setCell ⟨g, n, none⟩ u) := by
  have hfc := run_firstCells_some (P := P) w i.size 1 a 1 c [u] (by simp [h1]) (by intro j v hj; match j, hj with | 0, hj => simp at hj; subst hj; simpa [Addr.add] using hu)
  have hadd : (⟨g, 0, none⟩ : Addr).add n = ⟨g, n, none⟩ := by unfold Addr.add; split <;> simp_all
  have hadd0 : (⟨g, n, none⟩ : Addr).add 0 = ⟨g, n, none⟩ := by simp [Addr.add]
  have hst : (store ⟨g, n, none⟩ u).run P w = .ok () (w.setCell ⟨g, n, none⟩ u) := by
    rw [run_store P w _ u _ hone, hx]; simp [hf]
  have hr : ((n : Int) + 1 ≤ cap) := by omega
  simp only [h1] at hfc
  simp [Builtin.append_, run_underlying ht, sizeOf, typeInfo, hi, h1, Builtin.lenOf, hroom, hfc, hadd, storeCells, hadd0, hst]
theorem ownsB.setNext (h : ownsB w base e v n xs) {g cap : Nat} (hv : v = .slice (some ⟨g, 0, none⟩) n cap) (hr : n + 1 ≤ cap) (u : Value) : ownsB (w.setCell ⟨g, n, none⟩ u) base e (.slice (some ⟨g, 0, none⟩) (n + 1) cap) (n + 1) (xs ++ [u]) := by
  obtain ⟨hl, g', cap', cur, fz, hv', hb, hh, hfz, hn, hm, hc, ht⟩ := h
  rw [hv] at hv'
  injection hv' with h1 h2 h3
  injection h1 with h1
  injection h1 with h1
  subst h1; subst h3
  refine ⟨by simp [hl], g, cap, cur.setIfInBounds n u, fz, rfl, hb, ?_, by simpa using hfz, hr, hm, by simpa using hc, ?_⟩
  · simp [World.setCell, Array.getElem?_modify, hh]
  · rw [Array.toList_setIfInBounds, List.take_succ_eq_append_getElem (by simp; omega)]
    simp
    rw [List.take_set_of_le (Nat.le_refl _), ht]
theorem ownsB.cellNext (h : ownsB w base e v n xs) {g cap : Nat} (hv : v = .slice (some ⟨g, 0, none⟩) n cap) (hr : n + 1 ≤ cap) : (∃ x, w.cell? ⟨g, n, none⟩ = some x) ∧ w.frozen? ⟨g, n, none⟩ = false := by
  obtain ⟨hl, g', cap', cur, fz, hv', hb, hh, hfz, hn, hm, hc, ht⟩ := h
  rw [hv] at hv'
  injection hv' with h1 h2 h3
  injection h1 with h1
  injection h1 with h1
  subst h1; subst h3
  have hlt : n < cur.size := by omega
  refine ⟨⟨cur[n], by rw [cell_of_row w g n cur e fz hh, Array.getElem?_eq_getElem hlt]⟩, ?_⟩
  obtain ⟨lo, hi⟩ := fz
  simp only [World.frozen?, hh, Bool.and_eq_false_iff, decide_eq_false_iff_not]
  simp only at hfz
  omega
theorem run_append_B (t ty : TypeId) (i : TypeInfo) (z : Value) (bytes : Nat) (ht : P.underlying t = some (.slice e)) (hi : P.info? e = some i) (hz : i.zero = some z) (h1 : i.size = 1) (hby : i.bytes = bytes) (hzs : z.cells.size = 1)
    (h : ownsB w base e v n xs) (a : Addr) (c : Nat) (u : Value) (hu : w.cell? a = some u) (hone : u.oneCell' = true) (hn : n + 1 ≤ maxLen) (hbytes : (n + 1) * bytes ≤ 140737488355328) (hbase : base ≤ w.heap.size) :
    ∃ v' w', (Builtin.append_ #[t, t] ty #[v, .slice (some a) 1 c]).run P w = .ok v' w' ∧ ownsB w' base e v' (n + 1) (xs ++ [u]) ∧ w.grownBy w' v.ownBlock := by
  subst hby
  obtain ⟨g, cap, hv, hb, hgl, hnc, hcm⟩ := h.form
  by_cases hroom : n + 1 ≤ cap
  · obtain ⟨⟨x, hx⟩, hf⟩ := h.cellNext hv hroom
    have hr := run_append_room1 (P := P) (w := w) (n := n) t ty i ht hi h1 g cap a c u x hu hone hroom hx hf
    rw [← hv] at hr
    refine ⟨_, _, hr, h.setNext hv hroom u, ⟨rfl, rfl, rfl, by simp [World.setCell], fun k _ hk => Below.heap_setCell _ _ _ _ (by intro e'; exact hk (by rw [hv, e']; rfl))⟩⟩
  · have hsmall : n + 1 ≤ 9223372036854775807 := by simp only [maxLen] at hn; omega
    have hnews : ∀ j x, [u][j]? = some x → w.cell? (a.add j) = some x := by
      intro j x hj; match j, hj with | 0, hj => simp at hj; subst hj; simpa [Addr.add] using hu
    have holds : ∀ j x, xs[j]? = some x → w.cell? ((⟨g, 0, none⟩ : Addr).add j) = some x := by
      intro j x hj
      have hadd : (⟨g, 0, none⟩ : Addr).add j = ⟨g, j, none⟩ := by unfold Addr.add; split <;> simp_all
      rw [hadd]; exact h.cell hv j x hj
    have hr := run_append_grow (P := P) w t ty e i z ht hi hz ⟨g, 0, none⟩ n cap xs (by rw [h1]; simpa using h.1) holds a 1 c [u] (by simp [h1]) hnews (by omega) (by omega) (growslice_fits (by omega) hbytes)
    rw [← hv] at hr
    have hge := grownCap_ge w (n + 1) cap e
    refine ⟨_, _, hr, ⟨by simp [h.1], w.heap.size, _, _, (0, 0), rfl, hbase, heap_alloc_new w.drew _, .inr rfl, hge, grownCap_le_maxLen w (n + 1) cap e hn, ?_, ?_⟩, ⟨rfl, rfl, rfl, by simp, fun k hk _ => heap_alloc_old w.drew _ k hk⟩⟩
    · simp only [Array.size_append, List.size_toArray, size_zeroCells, hzs, h.1, List.length_singleton]; omega
    · simp only [Array.toList_append, List.append_assoc]
      rw [← List.append_assoc]
      exact List.take_left' (by simp [h.1])
theorem wpList_append_B {ops : Array Oper} {rest : List Oper} {o : Oper} {a : Act} {Q : Exit → Act → World → Prop} (hgd : o.guard = none) (s x : Operand) (t : TypeId)
    (ho : o.op = .call { callee := .builtin .append, args := #[s, x], argTypes := #[t, t] })
    (base : Nat) (e : TypeId) (i : TypeInfo) (z : Value) (bytes : Nat) (ht : P.underlying t = some (.slice e)) (hi : P.info? e = some i) (hz : i.zero = some z) (h1 : i.size = 1) (hby : i.bytes = bytes) (hzs : z.cells.size = 1)
    (v : Value) (n : Nat) (xs : List Value) (hs : a.eval s = v) (h : ownsB w base e v n xs)
    (ad : Addr) (c : Nat) (u : Value) (hx : a.eval x = .slice (some ad) 1 c) (hu : w.cell? ad = some u) (hone : u.oneCell' = true) (hn : n + 1 ≤ maxLen) (hbytes : (n + 1) * bytes ≤ 140737488355328) (hbase : base ≤ w.heap.size)
    (k : ∀ v' w', ownsB w' base e v' (n + 1) (xs ++ [u]) → w.grownBy w' v.ownBlock → wpList P ops Q rest (a.put o.dst v') w') : wpList P ops Q (o :: rest) a w :=
  wpList_plain hgd fun _ hK => by
    obtain ⟨v', w', hr, h2, h3⟩ := run_append_B (P := P) t o.type i z bytes ht hi hz h1 hby hzs h ad c u hu hone hn hbytes hbase
    unfold Oper.wp execOp
    simp only [ho, resolve, invoke, builtin, Sem.run_bind, Sem.run_pure, Result.andThen_ok, List.map_toArray, List.map_cons, List.map_nil, hs, hx, hr]
    exact hK _ _ (k v' w' h2 h3)
/-- []byte(s) -/
theorem ownsB_bytes (w : World) (s : ByteArray) (e : TypeId) (hs : s.size ≤ maxLen) :
    ownsB (w.drew.alloc (.cells (bytesRow s (grownCap w s.size 0 e)) e ((bytesRow s (grownCap w s.size 0 e)).size, (bytesRow s (grownCap w s.size 0 e)).size + 1))) w.heap.size e
      (.slice (some ⟨w.heap.size, 0, none⟩) s.size (grownCap w s.size 0 e)) s.size (RW.bytesV s.data.toList) := by
  have hge := grownCap_ge w s.size 0 e
  have hsz : (bytesRow s (grownCap w s.size 0 e)).size = grownCap w s.size 0 e := by
    simp only [bytesRow]; simp; have : s.data.size = s.size := rfl; omega
  refine ⟨by simp [RW.bytesV], w.heap.size, _, _, _, rfl, Nat.le_refl _, heap_alloc_new w.drew _, .inl (Nat.le_refl _), hge, grownCap_le_maxLen w s.size 0 e hs, hsz, ?_⟩
  apply List.ext_getElem?
  intro j
  rw [List.getElem?_take]
  by_cases hj : j < s.size
  · rw [if_pos hj, Array.getElem?_toList, bytesRow_at s _ j hj, RW.bytesV_get _ j (by simpa using hj)]; simp
  · rw [if_neg hj, List.getElem?_eq_none (by rw [RW.bytesV_length, Array.length_toList]; exact Nat.le_of_not_lt hj)]
end
end Go.Proofs.YtllbphanfahkkaaGreatDoor

/-
  digest.Sum: the padding's bytes, slices.Chunk's maker, and the sum of a string; only new memory is written.
-/
namespace Go.Proofs.YtllbphanfahkkaaGreatDoor
open Go.RowKit Go.Shelf
theorem stopHere {p : Prop} (h : Hid p) : p := h.out
section
variable {P : Program} {w w' : World} {base : Nat} {e : TypeId} {v : Value} {n : Nat} {xs : List Value} {F : Fence} {nF : Nat}
theorem wpListIn_append_B {ops : Array Oper} {rest : List Oper} {o : Oper} {a : Act} {Q : Exit → Act → World → Prop} (hgd : o.guard = none) (s x : Operand) (t : TypeId)
    (ho : o.op = .call { callee := .builtin .append, args := #[s, x], argTypes := #[t, t] })
    (base : Nat) (e : TypeId) (i : TypeInfo) (z : Value) (bytes : Nat) (ht : P.underlying t = some (.slice e)) (hi : P.info? e = some i) (hz : i.zero = some z) (h1 : i.size = 1) (hby : i.bytes = bytes) (hzs : z.cells.size = 1)
    (v : Value) (n : Nat) (xs : List Value) (hs : a.eval s = v) (h : ownsB w base e v n xs)
    (ad : Addr) (c : Nat) (u : Value) (hx : a.eval x = .slice (some ad) 1 c) (hu : w.cell? ad = some u) (hone : u.oneCell' = true) (hn : n + 1 ≤ maxLen) (hbytes : (n + 1) * bytes ≤ 140737488355328) (hbase : base ≤ w.heap.size)
    (k : ∀ v' w', ownsB w' base e v' (n + 1) (xs ++ [u]) → w.grownBy w' v.ownBlock → wpListIn F nF P ops Q rest (a.put o.dst v') w') : wpListIn F nF P ops Q (o :: rest) a w := by
  refine wpListIn_plain hgd fun K hK => ?_
  obtain ⟨v', w', hr, h2, h3⟩ := run_append_B (P := P) t o.type i z bytes ht hi hz h1 hby hzs h ad c u hu hone hn hbytes hbase
  unfold Oper.wpIn
  refine ⟨by simp [Oper.about, ho, resolve, Target.leads, Sem.run_pure], ?_⟩
  rw [Oper.semAt_plain F _ _ (by rw [ho]; intro c hc'; cases hc')]
  simp [execOp, ho, resolve, invoke, builtin, hs, hx, hr, Result.andThen]
  exact hK _ _ (k v' w' h2 h3)
end
theorem chunk_in (F : Fence) (n : Nat) (h7 : F.fn 170) (hro : F.round = none) (o : Option Addr) (l c : Nat) (w : World) :
    CallsIn F n Tryz.prog 170 #[.slice o l c, .int .i64 64] w fun e w' => e = .returned (.func (.func 188) #[] #[.pointer (some ⟨w.heap.size, 0, none⟩), .pointer (some ⟨w.heap.size + 1, 0, none⟩)]) ∧
      (w.alloc (.cells #[.slice o l c] 39)).alloc (.cells #[.int .i64 64] 3) = w' := by
  refine callsIn_of_wp Tryz.func170 rfl h7 ?_ hro
  simp only [Tryz.ntmps170, List.size_toArray, List.length_cons, List.length_nil, Nat.reduceAdd, Nat.reduceSub, Array.replicate_succ, Array.replicate_zero, List.push_toArray, List.append_toArray, List.nil_append, List.cons_append]
  gi_wp2
  go_ret
  exact ⟨rfl, rfl⟩
namespace RW
def padZ (n : Nat) : Nat := (119 - n % 64) % 64
def padB (n k : Nat) : UInt8 := UInt8.ofNat (8 * n / 2 ^ (8 * k) % 256)
/-- the bytes before the length's -/
def padM (l : List UInt8) (c : Nat) : List UInt8 := l ++ [128] ++ List.replicate c 0
/-- the length's bytes, from the highest on; c of them -/
def padT (n : Nat) : Nat → List UInt8
  | 0 => []
  | c + 1 => padT n c ++ [padB n (7 - c)]
def padL (l : List UInt8) : List UInt8 := padM l (padZ l.length) ++ padT l.length 8
def sh0 : Nat → Int := fun i => match i with
  | 0 => 1779033703 | 1 => 3144134277 | 2 => 1013904242 | 3 => 2773480762 | 4 => 1359893119 | 5 => 2600822924 | 6 => 528734635 | _ => 1541459225
def blkf (l : List UInt8) (c i : Nat) : Int := ((l.getD (64 * c + i) 0).toNat : Int)
def shRun (K : Nat → Int) (l : List UInt8) : Nat → Nat → Int
  | 0 => sh0
  | c + 1 => hnew (shRun K l c) K (wf (blkf l c))
def sha (K : Nat → Int) (l : List UInt8) : List UInt8 := dig (shRun K (padL l) ((padL l).length / 64))
theorem padB_int (n k : Nat) : 8 * (n : Int) / 2 ^ (8 * k) % 256 = ((padB n k).toNat : Int) := by
  unfold padB
  rw [UInt8.toNat_ofNat', Nat.mod_eq_of_lt (Nat.mod_lt _ (by decide))]
  simp
theorem padT_len (n c : Nat) : (padT n c).length = c := by
  induction c with
  | zero => rfl
  | succ c ih => simp [padT, ih]
theorem padM_len (l : List UInt8) (c : Nat) : (padM l c).length = l.length + 1 + c := by simp [padM]; omega
theorem padL_len (l : List UInt8) : (padL l).length = l.length + 1 + padZ l.length + 8 := by simp [padL, padT_len, padM_len]
theorem padL_dvd (l : List UInt8) : (padL l).length = 64 * ((padL l).length / 64) := by
  have := padL_len l
  unfold padZ at this
  omega
theorem padM_succ (l : List UInt8) (c : Nat) : padM l (c + 1) = padM l c ++ [0] := by
  simp [padM, List.replicate_succ']
theorem blkf_range (l : List UInt8) (c i : Nat) : 0 ≤ blkf l c i ∧ blkf l c i ≤ 255 := by
  unfold blkf
  have := UInt8.toNat_lt (l.getD (64 * c + i) 0)
  omega
theorem hnew_range (H K W : Nat → Int) (i : Nat) : 0 ≤ hnew H K W i ∧ hnew H K W i < 4294967296 := by
  unfold hnew
  omega
theorem shRun_range (K : Nat → Int) (l : List UInt8) (c i : Nat) (hi : i < 8) : 0 ≤ shRun K l c i ∧ shRun K l c i < 4294967296 := by
  cases c with
  | zero =>
    show 0 ≤ sh0 i ∧ sh0 i < 4294967296
    revert i; decide
  | succ c => exact hnew_range _ _ _ _
end RW
attribute [local go_sem] Oper.semAt_some
set_option maxRecDepth 100000 in
set_option maxHeartbeats 4000000 in
theorem sum_in (F : Fence) (hF : Hid (F = Fence.wide)) (n : Nat) (h40 : F.fn 149) (h76 : F.fn 170) (hro : F.round = none) (hn : 3 ≤ n) (s : ByteArray) (hs : s.size ≤ 1099511627776)
    (K : Nat → Int) (ks : Array Value) (hks : RW.WsOk ks K) (w : World) (hK : KLaid w ks) :
    CallsIn F n Tryz.prog 149 #[.string s] w fun e w' => e = .returned (.string ⟨(RW.sha K s.data.toList).toArray⟩) ∧ Below w.heap.size w w' := by
  have h1 : 1 ≤ n := by omega
  obtain ⟨i0, hi, hz0, hz1, hz2⟩ := info_parts info5
  refine callsIn_of_wp_marks Tryz.func149 rfl h40 ?_ hro
  simp only [Tryz.ntmps149, List.size_toArray, List.length_cons, List.length_nil, Nat.reduceAdd, Nat.reduceSub, Array.replicate_succ, Array.replicate_zero, List.push_toArray, List.append_toArray, List.nil_append, List.cons_append]
  obtain ⟨w0, hw0⟩ : ∃ w0, w0 = w.alloc (.cells (RW.vrow RW.sh0) 237) := ⟨_, rfl⟩
  have hr0 : w0.heap[w.heap.size]? = some (.cells (RW.vrow RW.sh0) 237 (0, 0)) := hw0 ▸ heap_alloc_new w _
  have hB0 : Below w.heap.size w w0 := hw0 ▸ (Below.refl _ _).alloc (Nat.le_refl _) _
  have hs0 : w0.heap.size = w.heap.size + 1 := hw0 ▸ World.size_alloc _ _
  obtain ⟨cap0, w1, hcv, hob, hr1, hB1⟩ : ∃ cap0 w1, (convert 9 39 (.string s)).run Tryz.prog w0 = .ok (.slice (some ⟨w.heap.size + 1, 0, none⟩) s.size cap0) w1 ∧
      ownsB w1 (w.heap.size + 1) 5 (.slice (some ⟨w.heap.size + 1, 0, none⟩) s.size cap0) s.size (RW.bytesV s.data.toList) ∧ w1.heap[w.heap.size]? = some (.cells (RW.vrow RW.sh0) 237 (0, 0)) ∧ Below w.heap.size w w1 := by
    rw [← hs0]
    refine ⟨_, _, run_bytes_of_string (P := Tryz.prog) w0 9 39 5 s Tryz.underlying9 Tryz.underlying39 Tryz.underlying5, ownsB_bytes w0 s 5 (by unfold maxLen; omega), ?_, ?_⟩
    · show (w0.heap.push _)[w.heap.size]? = _
      rw [Array.getElem?_push_lt (by omega)]; rw [Array.getElem?_eq_getElem (by omega)] at hr0; exact hr0
    · exact hB0.drew.alloc (by show w.heap.size ≤ w0.heap.size; omega) _
  have hb1 : s.size + 1 ≤ maxLen := by unfold maxLen; omega
  have hb2 : (s.size + 1) * 1 ≤ 140737488355328 := by omega
  have hb3 : w.heap.size + 1 ≤ w1.heap.size := Nat.le_of_lt (hob.lt _ rfl).2
  simp only [RW.vrow, RW.sh0] at hw0
  have hw1 := hw0.symm
  clear hw0
  gi_wp2_with (gi_at_builtin; refine wpListIn_append_B rfl _ _ 39 rfl (w.heap.size + 1) 5 i0 (.int .u8 0) 1 Tryz.underlying39 hi hz0 hz1 hz2 rfl (.slice (some ⟨w.heap.size + 1, 0, none⟩) s.size cap0) _ _ rfl (hob.alloc _) ⟨w1.heap.size, 0, none⟩ 1 (.int .u8 128) rfl (by simp) rfl hb1 hb2 (by simp; omega) ?_; intro v2 w2 ho2 hg2)
  have hB2 : Below w.heap.size w w2 := (hB1.alloc (by omega) (.cells #[.int .u8 128] 5)).grown hg2 (by simp; omega) (fun k e => by simp [Value.ownBlock] at e; omega)
  have hr2 : w2.heap[w.heap.size]? = some (.cells (RW.vrow RW.sh0) 237 (0, 0)) := by
    rw [hg2.block _ (by simp; omega) (by simp [Value.ownBlock])]
    show (w1.heap.push _)[w.heap.size]? = _
    rw [Array.getElem?_push_lt (by omega)]; rw [Array.getElem?_eq_getElem (by omega)] at hr1; exact hr1
  have e2 : RW.bytesV s.data.toList ++ [.int .u8 128] = RW.bytesV (RW.padM s.data.toList 0) := by simp [RW.padM, RW.bytesV]
  rw [e2] at ho2
  clear e2 hg2 hob hr1 hB1 hb1 hb2 hb3 hr0 hB0 hcv
  gi_loopw [4] (fun v wr => ∃ c : Nat, c ≤ RW.padZ s.size ∧ ownsB wr (w.heap.size + 1) 5 v (s.size + 1 + c) (RW.bytesV (RW.padM s.data.toList c)) ∧ wr.heap[w.heap.size]? = some (.cells (RW.vrow RW.sh0) 237 (0, 0)) ∧ Below w.heap.size w wr)
    (fun v wr => match v with | .slice _ l _ => s.size + 65 - l | _ => 0)
  case atStart => exact ⟨0, Nat.zero_le _, ho2, hr2, hB2⟩
  case round =>
    obtain ⟨c, hc, ho, hr, hB⟩ := hrel
    obtain ⟨g, cap, rfl, hg1, hg2, hcap⟩ := ho.form
    by_cases hlt : c < RW.padZ s.size
    · have hd : (((s.size : Int) + 1 + c) % 64 != 56) = true := by
        unfold RW.padZ at hlt; simp only [bne_iff_ne, ne_eq]; omega
      have hcb : c < 64 := by unfold RW.padZ at hlt; omega
      have hb1 : s.size + 1 + c + 1 ≤ maxLen := by unfold maxLen; omega
      have hb2 : (s.size + 1 + c + 1) * 1 ≤ 140737488355328 := by omega
      have hb3 : w.heap.size + 1 ≤ wr.heap.size := by have := hg2; omega
      gi_wp2_with (gi_at_builtin; refine wpListIn_append_B rfl _ _ 39 rfl (w.heap.size + 1) 5 i0 (.int .u8 0) 1 Tryz.underlying39 hi hz0 hz1 hz2 rfl (.slice (some ⟨g, 0, none⟩) (s.size + 1 + c) cap) _ _ rfl (ho.alloc _) ⟨wr.heap.size, 0, none⟩ 1 (.int .u8 0) rfl (by simp) rfl hb1 hb2 (by simp; omega) ?_; intro v3 w3 ho3 hg3)
      have hB3 : Below w.heap.size w w3 := (hB.alloc (by omega) (.cells #[.int .u8 0] 5)).grown hg3 (by simp; omega) (fun k e => by simp [Value.ownBlock] at e; omega)
      have hr3 : w3.heap[w.heap.size]? = some (.cells (RW.vrow RW.sh0) 237 (0, 0)) := by
        rw [hg3.block _ (by simp; omega) (by simp [Value.ownBlock]; omega)]
        show (wr.heap.push _)[w.heap.size]? = _
        rw [Array.getElem?_push_lt (by omega)]; rw [Array.getElem?_eq_getElem (by omega)] at hr; exact hr
      have e3 : RW.bytesV (RW.padM s.data.toList c) ++ [.int .u8 0] = RW.bytesV (RW.padM s.data.toList (c + 1)) := by rw [RW.padM_succ]; simp [RW.bytesV]
      rw [e3] at ho3
      obtain ⟨g', cap', rfl, hg1', hg2', hcap'⟩ := ho3.form
      go_roundw
      case rel => exact ⟨c + 1, by omega, by rw [show s.size + 1 + (c + 1) = s.size + 1 + c + 1 by omega]; exact ho3, hr3, hB3⟩
      case measure => simp; omega
    · have hcz : c = RW.padZ s.size := by omega
      have hd : (((s.size : Int) + 1 + c) % 64 != 56) = false := by
        rw [hcz]; unfold RW.padZ; simp only [bne_eq_false_iff_eq]; omega
      gi_wp2
      subst hcz
      generalize hz : RW.padZ s.size = z at ho
      have hzb : z < 64 := by rw [← hz]; unfold RW.padZ; omega
      gi_loopw [4, 5] (fun v iv wr => ∃ c : Nat, c ≤ 8 ∧ iv = .int .i64 (7 - (c : Int)) ∧ ownsB wr (w.heap.size + 1) 5 v (s.size + 1 + z + c) (RW.bytesV (RW.padM s.data.toList z ++ RW.padT s.size c)) ∧ wr.heap[w.heap.size]? = some (.cells (RW.vrow RW.sh0) 237 (0, 0)) ∧ Below w.heap.size w wr)
        (fun v iv wr => (intOf iv + 1).toNat)
      case atStart => exact ⟨0, Nat.zero_le _, rfl, by simpa [RW.padT] using ho, hr, hB⟩
      case round =>
        clear ho hr hB hd hg1 hg2 hcap
        obtain ⟨c, hc, rfl, ho, hr, hB⟩ := hrel
        obtain ⟨g, cap, rfl, hg1, hg2, hcap⟩ := ho.form
        by_cases hlt : c < 8
        · have hge : (0 : Int) ≤ 7 - (c : Int) := by omega
          have hb1 : s.size + 1 + z + c + 1 ≤ maxLen := by unfold maxLen; omega
          have hb2 : (s.size + 1 + z + c + 1) * 1 ≤ 140737488355328 := by omega
          have hb3 : w.heap.size + 1 ≤ wr.heap.size := by have := hg2; omega
          gi_wp2_with (gi_at_builtin; refine wpListIn_append_B rfl _ _ 39 rfl (w.heap.size + 1) 5 i0 (.int .u8 0) 1 Tryz.underlying39 hi hz0 hz1 hz2 rfl (.slice (some ⟨g, 0, none⟩) (s.size + 1 + z + c) cap) _ _ rfl (ho.alloc _) ⟨wr.heap.size, 0, none⟩ 1 (.int .u8 (8 * (s.size : Int) / 2 ^ (8 * (7 - c)) % 256)) rfl (by simp) rfl hb1 hb2 (by simp; omega) ?_; intro v3 w3 ho3 hg3)
          have hB3 : Below w.heap.size w w3 := (hB.alloc (by omega) (.cells #[.int .u8 (8 * (s.size : Int) / 2 ^ (8 * (7 - c)) % 256)] 5)).grown hg3 (by simp; omega) (fun k e => by simp [Value.ownBlock] at e; omega)
          have hr3 : w3.heap[w.heap.size]? = some (.cells (RW.vrow RW.sh0) 237 (0, 0)) := by
            rw [hg3.block _ (by simp; omega) (by simp [Value.ownBlock]; omega)]
            show (wr.heap.push _)[w.heap.size]? = _
            rw [Array.getElem?_push_lt (by omega)]; rw [Array.getElem?_eq_getElem (by omega)] at hr; exact hr
          have e3 : RW.bytesV (RW.padM s.data.toList z ++ RW.padT s.size c) ++ [.int .u8 (8 * (s.size : Int) / 2 ^ (8 * (7 - c)) % 256)] = RW.bytesV (RW.padM s.data.toList z ++ RW.padT s.size (c + 1)) := by
            rw [show RW.padT s.size (c + 1) = RW.padT s.size c ++ [RW.padB s.size (7 - c)] from rfl, RW.padB_int]; simp [RW.bytesV]
          rw [e3] at ho3
          obtain ⟨g', cap', rfl, hg1', hg2', hcap'⟩ := ho3.form
          go_roundw
          case rel => exact ⟨c + 1, by omega, by go_num, by rw [show s.size + 1 + z + (c + 1) = s.size + 1 + z + c + 1 by omega]; exact ho3, hr3, hB3⟩
          case measure => simp [intOf]; omega
        · have hge : ¬ (0 : Int) ≤ 7 - (c : Int) := by omega
          have hc8 : c = 8 := by omega
          have hpl : RW.padM s.data.toList z ++ RW.padT s.size c = RW.padL s.data.toList := by
            rw [hc8, ← hz]; unfold RW.padL; rw [Array.length_toList]; rfl
          have hlen : s.size + 1 + z + c = (RW.padL s.data.toList).length := by rw [← hpl, List.length_append, RW.padM_len, RW.padT_len, Array.length_toList]; rfl
          rw [hpl, hlen] at ho
          rw [hlen]
          clear hpl
          generalize hPL : RW.padL s.data.toList = PL at ho hlen ⊢
          have hdv : PL.length = 64 * (PL.length / 64) := hPL ▸ RW.padL_dvd _
          generalize hm : PL.length / 64 = m at hdv
          rw [hdv] at ho ⊢
          gi_wp2_with (gi_at_call 170; refine (chunk_in F (n - 1) h76 hro _ _ _ _).mono ?_; rintro e w' ⟨rfl, rfl⟩)
          have hcp := ho.cell rfl
          have hbs := hB.size
          have hb0 : w.heap.size < wr.heap.size := (Array.getElem?_eq_some_iff.1 hr).1
          have hcap2 : cap ≤ 9223372036854775807 := by have := hcap.2; unfold maxLen at this; omega
          obtain ⟨w4, hw4⟩ : ∃ w4, w4 = (wr.alloc (.cells #[.slice (some ⟨g, 0, none⟩) (64 * m) cap] 39)).alloc (.cells #[.int .i64 64] 3) := ⟨_, rfl⟩
          have hs4 : w4.heap.size = wr.heap.size + 2 := by rw [hw4]; simp
          have hB4 : Below w.heap.size w w4 := by rw [hw4]; exact (hB.alloc (by omega) _).alloc (by simp; omega) _
          have hw4o : ∀ k, k < wr.heap.size → w4.heap[k]? = wr.heap[k]? := fun k hk => by
            rw [hw4, Below.heap_alloc _ _ _ (by simp; omega), Below.heap_alloc _ _ _ hk]
          have hw4a : w4.cell? ⟨wr.heap.size, 0, none⟩ = some (.slice (some ⟨g, 0, none⟩) (64 * m) cap) := by rw [hw4]; simp
          have hw4b : w4.cell? ⟨wr.heap.size + 1, 0, none⟩ = some (.int .i64 64) := by rw [hw4]; simp
          rw [← hw4]
          clear hw4
          obtain rfl := hF.out
          refine wpIn_rf rfl h1 (gf := 188) (lb := #[.pointer (some ⟨wr.heap.size, 0, none⟩), .pointer (some ⟨wr.heap.size + 1, 0, none⟩)]) rfl trivial (enters_of Tryz.func188 (by kernel_rfl) rfl) ?_
          intro fn hfn W1 hW1 hL1 hK1
          have hs1 : W1.heap.size = wr.heap.size + 4 := by rw [hW1]; simp; omega
          have hB1 : Below w.heap.size w W1 := by rw [hW1]; exact (hB4.alloc (by omega) _).alloc (by simp; omega) _
          have hW1o : ∀ k, k < w4.heap.size → W1.heap[k]? = w4.heap[k]? := fun k hk => by
            rw [hW1, Below.heap_alloc _ _ _ (by simp; omega), Below.heap_alloc _ _ _ hk]
          clear hW1
          generalize hrec : ({ state := .ready, pending := none, fn, tmps := _, params := _, assign := _, body := _, defers := w4.heap.size } : Loop) = rec at hL1 ⊢
          refine (chunk1 Fence.wide (n - 1) trivial rfl (by omega) (w4.heap.size + 1) wr.heap.size (wr.heap.size + 1) g m cap
            (fun c W => W.heap[w.heap.size]? = some (.cells (RW.vrow (RW.shRun K PL c)) 237 (0, 0)) ∧ W.heap[w4.heap.size + 1]? = some (.loop rec) ∧ W.heap[w4.heap.size]? = some (.deferred (some [])) ∧ Below w.heap.size w W ∧ W.heap[g]? = wr.heap[g]? ∧ wr.heap.size + 4 ≤ W.heap.size)
            ?_ ?_ (by have := hcap.1; omega) hcap2 W1 ((World.cell?_of_block (w := w4) (hW1o _ (by show wr.heap.size < _; omega))).trans hw4a) ((World.cell?_of_block (w := w4) (hW1o _ (by show wr.heap.size + 1 < _; omega))).trans hw4b) ⟨?_, hL1, hK1, hB1, ?_, by omega⟩).mono ?_
          · rintro c W hcm ⟨hh, hl, hk, hBW, hgW, hsW⟩
            have e1 := congrArg Loop.assign hrec
            have e2 := congrArg Loop.body hrec
            have e3 := congrArg Loop.params hrec
            have e4 := congrArg Loop.tmps hrec
            have e5 := congrArg Loop.fn hrec
            have e6 := congrArg Loop.state hrec
            have e7 := congrArg Loop.pending hrec
            dsimp only at e1 e2 e3 e4 e5 e6 e7
            have eH := hide (And.intro e1 (And.intro e2 (And.intro e3 (And.intro e4 (And.intro e6 e7)))))
            refine yieldAt_body hl e6.symm (by rw [← e3]; rfl) (by rw [← e5]; exact hfn) ?_
            rw [← e1, ← e2, ← e3, ← e4]
            clear e1 e2 e3 e4 e5 e6 e7 hrec
            have hs4' := hide hs4
            have hlH := hide hl
            have hgL := hide (show g < wr.heap.size from hg2)
            have hgb := hide hg1
            clear hs4 hl hg2 hg1 hcap
            gi_wp2
            refine ⟨hlH.out, ?_⟩
            have hs4 := hs4'.out
            have hgl := hgL.out
            have hl := hlH.out
            intro W2 hl2 hg2
            generalize hbusy : ({ state := LoopState.busy, pending := _, fn := _, tmps := _, params := _, assign := _, body := _, defers := _ } : Loop) = busy at hl2 ⊢
            have hB2 : Below w.heap.size w W2 := hBW.grown hg2 hBW.size (fun k e => by cases e; omega)
            have hh2 := (hg2.block w.heap.size (by omega) (by simp; omega)).trans hh
            have hk2 := (hg2.block w4.heap.size (by omega) (by simp)).trans hk
            have hgg2 := (hg2.block g (by omega) (by simp; omega)).trans hgW
            have hs2 := hg2.size
            have hb4 : ∀ k, k < wr.heap.size + 2 → W2.heap[k]? = W.heap[k]? := fun k hk => hg2.block k (by omega) (by simp; omega)
            have hK2 : KLaid W2 ks := by
              obtain ⟨t, fr, hk⟩ := hK
              exact ⟨t, fr, (hB2.block _ (Array.getElem?_eq_some_iff.1 hk).1).trans hk⟩
            have hcc : ∀ i, i < 64 → W2.cell? ⟨g, 64 * c + i, none⟩ = some (.int .u8 (RW.blkf PL c i)) := fun i hi => by
              rw [World.cell?_of_block (w := wr) (show W2.heap[g]? = wr.heap[g]? from hgg2)]
              refine hcp (64 * c + i) _ ?_
              have hl : 64 * c + i < PL.length := by omega
              simp [RW.bytesV, RW.blkf, List.getD, List.getElem?_eq_getElem hl]
            have hadd := hide (add_any (RW.shRun K PL c) K (RW.blkf PL c) w.heap.size g (64 * c) 64 ks (fun i _ => RW.blkf_range PL c i) W2 (by omega) hcc hK2 hks hh2)
            have hrdy2 : Hid (({ busy with state := .ready, pending := none } : Loop) = rec) := by
              obtain ⟨e1, e2, e3, e4, e6, e7⟩ := eH.out
              show _ = _
              rw [← hbusy]; cases rec; simp_all
            clear hbusy eH hcc hK2 hh2 hgg2 hs4 hgl
            gi_wp2
            refine ⟨trivial, (fun h => by cases h), CallsIn.mono (CallsIn.inRound _ (callsIn_wide.2 hadd.out)) ?_⟩
            rintro e w3 ⟨rfl, hr3, hg3⟩
            have hs3 := hg3.size
            have hgl := hgL.out
            have hs4 := hs4'.out
            have hl3 := (hg3.block (w4.heap.size + 1) (by omega) (by simp; omega)).trans hl2
            have hk3 := (hg3.block w4.heap.size (by omega) (by simp; omega)).trans hk2
            have hB3 : Below w.heap.size w w3 := hB2.grown hg3 hB2.size (fun k e => by cases e; omega)
            have hne : g ≠ w.heap.size := by have := hgb.out; omega
            have hgg3 := (hg3.block g (by omega) (by simp; omega)).trans (hb4 g (by omega))
            have hx3 := (hg3.block wr.heap.size (by omega) (by simp; omega)).trans (hb4 wr.heap.size (by omega))
            have hy3 := (hg3.block (wr.heap.size + 1) (by omega) (by simp; omega)).trans (hb4 (wr.heap.size + 1) (by omega))
            clear hs4
            gi_wp2
            refine ⟨hl3, ?_⟩
            rw [hrdy2.out]
            have hsp := (grownBy_putObj' w3 (w4.heap.size + 1) (.loop rec))
            have hs4 := hs4'.out
            refine ⟨rfl, ⟨?_, World.putObj_heap_same (by omega), (World.putObj_heap_other (by omega)).trans hk3, hB3.grown hsp hB3.size (fun k e => by cases e; omega), ?_, ?_⟩, ?_, ?_⟩
            · exact (World.putObj_heap_other (by omega)).trans hr3
            · exact (World.putObj_heap_other (by omega)).trans (hgg3.trans hgW)
            · have := hsp.size; omega
            · exact World.cell?_of_block ((World.putObj_heap_other (by show wr.heap.size ≠ _; omega)).trans hx3)
            · exact World.cell?_of_block ((World.putObj_heap_other (by show wr.heap.size + 1 ≠ _; omega)).trans hy3)
          · rintro c W ⟨hh, hl, hk, hBW, hgW, hsW⟩
            exact ⟨hh, hl, hk, hBW.drew, hgW, hsW⟩
          · rw [hW1o _ (by omega), hw4o _ hb0]; exact hr
          · rw [hW1o _ (by omega), hw4o _ (by omega)]
          · rintro e W2 ⟨⟨u, rfl⟩, hh, hl, hk, hBW, hgW, hsW⟩
            have e6 := congrArg Loop.state hrec
            have e7 := congrArg Loop.pending hrec
            dsimp only at e6 e7
            refine ⟨⟨u, rfl⟩, rec, hl, by rw [← e6]; decide, .inl ⟨e7.symm, ?_⟩⟩
            clear e6 e7 hrec
            intro W3 oo hW3
            have hg3 := grownBy_putObj' W2 (w4.heap.size + 1) oo
            rw [← hW3] at hg3
            have hh3 := (hg3.block w.heap.size (by omega) (by simp; omega)).trans hh
            have hk3 := (hg3.block w4.heap.size (by omega) (by simp)).trans hk
            have hB3 : Below w.heap.size w W3 := hBW.grown hg3 hBW.size (fun k e => by cases e; omega)
            clear hW3 hg3 hh hk hl hBW hL1 hK1
            have hld := hide (digest_any (RW.shRun K PL m) (fun i hi => RW.shRun_range K PL m i hi) W3)
            generalize hst : RW.shRun K PL m = st at hh3 hld
            have hi96 : (Tryz.prog.info? 237).map (·.size) = some 8 := by kernel_rfl
            have hce : ∀ i (hi : i < 8), W3.cell? ⟨w.heap.size, i, none⟩ = some (.int .u32 (st i)) := fun i hi => by
              have := RW.vrow_get st i hi
              simpa [World.cell?, hh3] using this
            have c0 := hce 0 (by decide)
            have c1 := hce 1 (by decide)
            have c2 := hce 2 (by decide)
            have c3 := hce 3 (by decide)
            have c4 := hce 4 (by decide)
            have c5 := hce 5 (by decide)
            have c6 := hce 6 (by decide)
            have c7 := hce 7 (by decide)
            clear hce hh3
            gi_wp2
            refine ⟨trivial, CallsIn.mono (callsIn_wide.2 hld.out) ?_⟩
            rintro e w5 ⟨rfl, hB5⟩
            have hk5 := (hB5.block _ (Array.getElem?_eq_some_iff.1 hk3).1).trans hk3
            have hst' := hide hst
            clear hst hld
            gi_wp2
            rw [hs4] at hk5
            refine ⟨by simp, .inl ⟨_, _, rfl, run_takeDeferred hk5, ?_⟩⟩
            refine ⟨_, results_tmp rfl _ _ _, ?_, (hB3.trans (hB5.mono (by have := hB3.size; omega))).grown (grownBy_putObj' _ _ _) (by have h1 := hB3.size; have h2 := hB5.size; omega) (fun k e => by cases e; omega)⟩
            show Ending.returned (.string ⟨(RW.dig st).toArray⟩) = _
            unfold RW.sha
            rw [hPL, hm, hst'.out]
end Go.Proofs.YtllbphanfahkkaaGreatDoor

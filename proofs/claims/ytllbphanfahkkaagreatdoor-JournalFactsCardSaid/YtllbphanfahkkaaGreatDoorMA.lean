/-
  Plain laws for the encoding of numbers and strings (zigzag, groups of seven bits), and laws on a range over a function: no condition beyond each theorem's own premises.
-/
import Derived.Laws.BitsAllLaws
import Derived.RangeFuncWrites
import Derived.RangeFuncBox
import Derived.RangeFuncLeaves
import Derived.Shelf.Abstract
import Derived.WalkKit
import Derived.OwnWalkIn
import Derived.TacticsInMore
import Derived.LoopNIn
import Derived.LoopIn
import Derived.Maps.AppendAt
import Derived.Test.YtllbphanfahkkaaGreatDoorProg
namespace Go.Proofs.YtllbphanfahkkaaGreatDoor.RW
open Go Go.RowKit
/-- zigzag -/
def zz (n : Int) : Nat := if n < 0 then (2 * (-n) - 1).toNat else (2 * n).toNat
def uz (z : Nat) : Int := if z % 2 = 1 then -((z / 2 : Nat) : Int) - 1 else ((z / 2 : Nat) : Int)
def maxI : Int := 4611686018427387903
def encF : Nat → Nat → List UInt8
  | 0, _ => []
  | f + 1, z => if z < 128 then [UInt8.ofNat z] else UInt8.ofNat (z % 128 + 128) :: encF f (z / 128)
def putI (n : Int) : List UInt8 := encF 10 (zz n)
/-- decode: fuel f = 9 - i -/
def decG : Nat → Nat → Nat → List UInt8 → Option (Int × Nat)
  | 0, _, _, _ => none
  | _ + 1, _, _, [] => none
  | f + 1, i, z, b :: l =>
    if 128 ≤ b.toNat then decG f (i + 1) (z + (b.toNat % 128) * 2 ^ (7 * i)) l
    else if (b.toNat = 0 ∧ 0 < i) ∨ uz (z + (b.toNat % 128) * 2 ^ (7 * i)) < -maxI then none
    else some (uz (z + (b.toNat % 128) * 2 ^ (7 * i)), i + 1)
def decI (l : List UInt8) : Option (Int × Nat) := decG 9 0 0 l

theorem pow_step (k : Nat) (z b : Nat) (hz : z < 2 ^ (7 * k)) : z + (b % 128) * 2 ^ (7 * k) < 2 ^ (7 * (k + 1)) := by
  have h1 : b % 128 < 128 := Nat.mod_lt _ (by decide)
  have h2 : 2 ^ (7 * (k + 1)) = 128 * 2 ^ (7 * k) := by rw [Nat.mul_add, Nat.pow_add]; omega
  have h3 : (b % 128) * 2 ^ (7 * k) ≤ 127 * 2 ^ (7 * k) := Nat.mul_le_mul_right _ (by omega)
  omega
theorem pow9 (k : Nat) (hk : k ≤ 9) : 2 ^ (7 * k) ≤ 9223372036854775808 := by
  have := Nat.pow_le_pow_right (n := 2) (by decide) (show 7 * k ≤ 63 by omega)
  simpa using this
theorem or_step (k z b : Nat) (hk : k < 9) (hz : z < 2 ^ (7 * k)) (hb : b < 256) :
    bits .or .u64 (z : Int) (IntKind.u64.wrap (IntKind.u64.wrap (bits .and .u8 (b : Int) 127) * 2 ^ (7 * k))) = ((z + (b % 128) * 2 ^ (7 * k) : Nat) : Int) := by
  have h1 := pow_step k z b hz
  have h2 := pow9 (k + 1) (by omega)
  have e1 : bits .and .u8 (b : Int) 127 = ((b % 128 : Nat) : Int) := by
    have := u8_and_nat b 127 hb (by decide)
    rw [nat_mask7] at this; exact this
  have e2 : IntKind.u64.wrap ((b % 128 : Nat) : Int) = ((b % 128 : Nat) : Int) := by rw [IntKind.wrap_u64]; omega
  have e3 : ((b % 128 : Nat) : Int) * 2 ^ (7 * k) = (((b % 128) * 2 ^ (7 * k) : Nat) : Int) := by
    rw [Int.natCast_mul, Int.natCast_pow]; rfl
  have e4 : IntKind.u64.wrap (((b % 128) * 2 ^ (7 * k) : Nat) : Int) = (((b % 128) * 2 ^ (7 * k) : Nat) : Int) := by
    rw [IntKind.wrap_u64]; omega
  rw [e1, e2, e3, e4, u64_or_nat _ _ (by omega) (by omega), Nat.or_comm, nat_join (7 * k) _ _ (by simp) hz, Nat.add_comm]
theorem uz_bd (z : Nat) (hz : z < 9223372036854775808) : -4611686018427387904 ≤ uz z ∧ uz z ≤ 4611686018427387903 := by
  unfold uz; split <;> omega
theorem xor_neg (a : Nat) (ha : a < 9223372036854775808) : bits .xor .i64 (a : Int) (-1) = -(a : Int) - 1 := by
  show IntKind.i64.wrap ((BitVec.ofInt 64 (a : Int) ^^^ BitVec.ofInt 64 (-1)).toNat : Int) = _
  have h : BitVec.ofInt 64 (-1) = BitVec.allOnes 64 := by decide
  rw [h, BitVec.xor_allOnes, BitVec.toNat_not, BitVec.ofInt_natCast, BitVec.toNat_ofNat, Nat.mod_eq_of_lt (by omega), IntKind.wrap_i64]
  omega
theorem xor_zero (a : Nat) (ha : a < 9223372036854775808) : bits .xor .i64 (a : Int) 0 = (a : Int) := by
  show IntKind.i64.wrap ((BitVec.ofInt 64 (a : Int) ^^^ BitVec.ofInt 64 0).toNat : Int) = _
  have h : BitVec.ofInt 64 0 = 0#64 := by decide
  rw [h, BitVec.xor_zero, BitVec.ofInt_natCast, BitVec.toNat_ofNat, Nat.mod_eq_of_lt (by omega), IntKind.wrap_i64]
  omega
theorem uz_bits (z : Nat) (hz : z < 9223372036854775808) :
    bits .xor .i64 (wrap64 ((z : Int) / 2)) (wrap64 (-wrap64 (bits .and .u64 (z : Int) 1))) = uz z := by
  have e1 : bits .and .u64 (z : Int) 1 = ((z % 2 : Nat) : Int) := by
    have := u64_and_nat z 1 (by omega) (by decide)
    rw [nat_mask1] at this; exact this
  have e2 : wrap64 ((z : Int) / 2) = ((z / 2 : Nat) : Int) := by rw [IntWalk.wrap64_in _ ⟨by omega, by omega⟩]; omega
  rw [e1, e2]
  unfold uz
  rcases Nat.mod_two_eq_zero_or_one z with h | h
  · rw [h, if_neg (by decide), show wrap64 (-wrap64 ((0 : Nat) : Int)) = 0 by decide +kernel]
    exact xor_zero (z / 2) (by omega)
  · rw [h, if_pos rfl, show wrap64 (-wrap64 ((1 : Nat) : Int)) = -1 by decide +kernel]
    exact xor_neg (z / 2) (by omega)
theorem decG_nil (f i z : Nat) : decG f i z [] = none := by cases f <;> rfl
theorem decG_zero (i z : Nat) (l : List UInt8) : decG 0 i z l = none := by cases l <;> rfl
theorem decG_cons (f i z : Nat) (b : UInt8) (l : List UInt8) : decG (f + 1) i z (b :: l) =
    if 128 ≤ b.toNat then decG f (i + 1) (z + (b.toNat % 128) * 2 ^ (7 * i)) l
    else if (b.toNat = 0 ∧ 0 < i) ∨ uz (z + (b.toNat % 128) * 2 ^ (7 * i)) < -maxI then none
    else some (uz (z + (b.toNat % 128) * 2 ^ (7 * i)), i + 1) := rfl
theorem drop_cons (s : ByteArray) (k : Nat) (h : k < s.size) : s.data.toList.drop k = s[k] :: s.data.toList.drop (k + 1) := by
  rw [List.drop_eq_getElem_cons (by simpa using h)]; rfl
end Go.Proofs.YtllbphanfahkkaaGreatDoor.RW
namespace Go.Proofs.YtllbphanfahkkaaGreatDoor.RW
/-- what decI consumes lies within the list -/
theorem decG_le (f : Nat) : ∀ (i z : Nat) (l : List UInt8) (n : Int) (k : Nat), decG f i z l = some (n, k) → i < k ∧ k ≤ i + l.length ∧ k ≤ i + f := by
  induction f with
  | zero => intro i z l n k h; rw [decG_zero] at h; cases h
  | succ f ih =>
    intro i z l n k h
    cases l with
    | nil => cases h
    | cons b l =>
      rw [decG_cons] at h
      split at h
      · have := ih _ _ _ _ _ h; simp; omega
      · split at h
        · cases h
        · simp at h; simp; omega
theorem decI_le (l : List UInt8) (n : Int) (k : Nat) (h : decI l = some (n, k)) : 0 < k ∧ k ≤ l.length ∧ k ≤ 9 := by
  have := decG_le _ _ _ _ _ _ h; omega
theorem decG_bd (f : Nat) : ∀ (i z : Nat) (l : List UInt8) (n : Int) (k : Nat), z < 2 ^ (7 * i) → i + f ≤ 9 → decG f i z l = some (n, k) → -maxI ≤ n ∧ n ≤ maxI := by
  induction f with
  | zero => intro i z l n k _ _ h; rw [decG_zero] at h; cases h
  | succ f ih =>
    intro i z l n k hz hf h
    cases l with
    | nil => cases h
    | cons b l =>
      rw [decG_cons] at h
      have h1 := pow_step i z b.toNat hz
      split at h
      · exact ih _ _ _ _ _ h1 (by omega) h
      · split at h
        · cases h
        · have h2 := pow9 (i + 1) (by omega)
          have := uz_bd _ (show z + (b.toNat % 128) * 2 ^ (7 * i) < 9223372036854775808 by omega)
          simp at h
          unfold maxI at *
          omega
theorem decI_bd (l : List UInt8) (n : Int) (k : Nat) (h : decI l = some (n, k)) : -4611686018427387903 ≤ n ∧ n ≤ 4611686018427387903 :=
  decG_bd _ _ _ _ _ _ (by decide) (by decide) h
/-- a string at the head -/
def decS (l : List UInt8) : Option (List UInt8 × Nat) :=
  match decI l with
  | none => none
  | some (n, k) => if n < 0 ∨ 65536 < n ∨ (l.length : Int) - k < n then none else some ((l.drop k).take n.toNat, k + n.toNat)
theorem decS_none (l : List UInt8) (h : decI l = none) : decS l = none := by unfold decS; rw [h]
theorem decS_some (l : List UInt8) (n : Int) (k : Nat) (h : decI l = some (n, k)) : decS l =
    if n < 0 ∨ 65536 < n ∨ (l.length : Int) - k < n then none else some ((l.drop k).take n.toNat, k + n.toNat) := by unfold decS; rw [h]
end Go.Proofs.YtllbphanfahkkaaGreatDoor.RW
namespace Go.Proofs.YtllbphanfahkkaaGreatDoor.RW
theorem extract_eq (s : ByteArray) (a b : Nat) (_h : b ≤ s.size) : s.extract a b = ⟨((s.data.toList.drop a).take (b - a)).toArray⟩ := by
  apply ByteArray.ext
  rw [ByteArray.data_extract]
  apply Array.ext'
  simp [Array.toList_extract, List.extract_eq_take_drop]
end Go.Proofs.YtllbphanfahkkaaGreatDoor.RW
namespace Go.Proofs.YtllbphanfahkkaaGreatDoor.RW
open Go Go.RowKit
def grp : Nat → Nat → List (Nat × Bool)
  | 0, _ => []
  | f + 1, z => if z < 128 then [(z, true)] else (z % 128, false) :: grp f (z / 128)
def gbyte (x : Nat × Bool) : UInt8 := UInt8.ofNat (if x.2 then x.1 else x.1 + 128)
theorem grp_lo (f z : Nat) (h : z < 128) : grp (f + 1) z = [(z, true)] := by rw [grp, if_pos h]
theorem grp_hi (f z : Nat) (h : ¬ z < 128) : grp (f + 1) z = (z % 128, false) :: grp f (z / 128) := by rw [grp, if_neg h]
theorem encF_grp (f : Nat) : ∀ z, encF f z = (grp f z).map gbyte := by
  induction f with
  | zero => intro z; rfl
  | succ f ih =>
    intro z
    rw [encF, grp]
    split
    · rfl
    · rw [ih, List.map_cons]; rfl
theorem grp_len (f : Nat) : ∀ z, (grp f z).length ≤ f := by
  induction f with
  | zero => intro z; simp [grp]
  | succ f ih => intro z; rw [grp]; split <;> simp; exact ih _
theorem and127 (z : Nat) (hz : z < 18446744073709551616) : bits .and .u64 (z : Int) 127 = ((z % 128 : Nat) : Int) := by
  have := u64_and_nat z 127 hz (by decide)
  rw [nat_mask7] at this; exact this
def natOf (v : Option Value) : Nat := match v with | some v => (intOf v).toNat | none => 0
end Go.Proofs.YtllbphanfahkkaaGreatDoor.RW
namespace Go.Proofs.YtllbphanfahkkaaGreatDoor.RW
open Go Go.RowKit
theorem zz_bits (x : Int) (h1 : -4611686018427387904 ≤ x) (h2 : x ≤ 4611686018427387903) :
    bits .xor .u64 (IntKind.u64.wrap (IntKind.u64.wrap x * 2)) (IntKind.u64.wrap (x / 9223372036854775808)) = ((zz x : Nat) : Int) := by
  unfold zz
  by_cases h : x < 0
  · rw [if_pos h]
    have e1 : IntKind.u64.wrap (IntKind.u64.wrap x * 2) = (((2 * x + 18446744073709551616).toNat : Nat) : Int) := by
      rw [IntKind.wrap_u64, IntKind.wrap_u64]; omega
    have e2 : IntKind.u64.wrap (x / 9223372036854775808) = ((18446744073709551615 : Nat) : Int) := by rw [IntKind.wrap_u64]; omega
    rw [e1, e2, u64_xor_nat _ _ (by omega) (by omega)]
    have e3 : ∀ a : Nat, a < 2 ^ 64 → a ^^^ 18446744073709551615 = 18446744073709551615 - a := by
      intro a ha
      have := congrArg BitVec.toNat (BitVec.xor_allOnes (x := BitVec.ofNat 64 a))
      rw [BitVec.toNat_xor, BitVec.toNat_not, BitVec.toNat_ofNat, Nat.mod_eq_of_lt ha] at this
      simpa using this
    rw [e3 _ (by omega)]
    omega
  · rw [if_neg h]
    have e1 : IntKind.u64.wrap (IntKind.u64.wrap x * 2) = (((2 * x).toNat : Nat) : Int) := by
      rw [IntKind.wrap_u64, IntKind.wrap_u64]; omega
    have e2 : IntKind.u64.wrap (x / 9223372036854775808) = ((0 : Nat) : Int) := by rw [IntKind.wrap_u64]; omega
    rw [e1, e2, u64_xor_nat _ _ (by omega) (by decide), Nat.xor_zero]
theorem zz_lt (x : Int) (h1 : -4611686018427387903 ≤ x) (h2 : x ≤ 4611686018427387903) : zz x < 9223372036854775808 := by
  unfold zz; split <;> omega
/-- the value of a group's byte in the body -/
theorem or128 (g : Nat) (hg : g < 128) : bits .or .u8 (g : Int) 128 = ((g + 128 : Nat) : Int) := by
  have := u8_or_nat g 128 (by omega) (by decide)
  rw [Nat.or_comm, nat_join 7 128 g (by decide) (by simpa using hg), Nat.add_comm] at this
  exact this
def bytesV (l : List UInt8) : List Value := l.map fun b => .int .u8 b.toNat
end Go.Proofs.YtllbphanfahkkaaGreatDoor.RW
namespace Go.Proofs.YtllbphanfahkkaaGreatDoor.RW
open Go Go.RowKit
theorem bytesV_length (l : List UInt8) : (bytesV l).length = l.length := by simp [bytesV]
theorem bytesV_get (l : List UInt8) (j : Nat) (h : j < l.length) : (bytesV l)[j]? = some (.int .u8 (l[j].toNat : Int)) := by simp [bytesV, h]
theorem putI_grp (x : Int) : putI x = (grp 10 (zz x)).map gbyte := encF_grp _ _
theorem grp_pos (f z : Nat) : ∃ k, (grp (f + 1) z).length = k + 1 := by rw [grp]; split <;> exact ⟨_, rfl⟩
theorem own_cells {w : World} {base : Nat} {e : TypeId} {g n cap : Nat} {l : List UInt8} (h : w.ownsRow base e 1 (.slice (some ⟨g, 0, none⟩) n cap) n (bytesV l)) :
    ∀ j (hj : j < l.length), w.cell? ((⟨g, 0, none⟩ : Addr).add j) = some (.int .u8 (l[j].toNat : Int)) :=
  fun j hj => h.cells (g := g) rfl j _ (bytesV_get l j hj)
end Go.Proofs.YtllbphanfahkkaaGreatDoor.RW
namespace Go.Proofs.YtllbphanfahkkaaGreatDoor
open Go Go.RowKit
theorem hide {p : Prop} (h : p) : Hid p := h
theorem ret_int {k : IntKind} {a b : Int} (h : a = b) : Ending.returned (.int k a) = .returned (.int k b) := by rw [h]
open Go.RowKit
/-- what a round of a loop over a function owes at its end -/
def roundQ (l : Nat) (rec : Loop) (R : Ending → World → Prop) : Exit → Act → World → Prop
  | .normal, _, W => W.heap[l]? = some (.loop rec) ∧ R (.returned (.bool true)) (W.putObj l (.loop { rec with state := .ready, pending := none }))
  | .ret, _, W => W.heap[l]? = some (.loop rec) ∧ R (.returned (.bool false)) (W.putObj l (.loop { rec with state := .done, pending := some .ret }))
  | .exit id, _, W => W.heap[l]? = some (.loop rec) ∧ R (.returned (.bool false)) (W.putObj l (.loop { rec with state := .done, pending := some (.exit id) }))
  | _, _, _ => False
theorem yieldAt_body {P : Program} {F : Fence} {m l : Nat} {W : World} {rec : Loop} {args : Array Value} {R : Ending → World → Prop}
    (hl : W.heap[l]? = some (.loop rec)) (hst : rec.state = .ready) (hsz : args.size = rec.params.size) (hFn : F.fn rec.fn)
    (h : rec.assign.wpIn (F.inRound l) m P (Exit.then (fun a₁ W1 => W1.heap[l]? = some (.loop rec) ∧ ∀ W2 busy, busy = { rec with state := .busy } → W2.heap[l]? = some (.loop busy) → W1.grownBy W2 (some l) → rec.body.wpIn (F.inRound l) m P (roundQ l busy R) a₁ W2) (fun _ _ _ => False))
      { tmps := (rec.params.zip args).foldl (fun t (p, v) => t.setIfInBounds p v) rec.tmps, defers := [] } W) :
    YieldAt F m P l args W R := by
  refine ⟨rec.fn, _, rec.assign, rec.body, run_yield hl hsz, roundIn_of_wpIn hFn (wpIn_mono h ?_)⟩
  intro e a1 W1 hq
  cases e with
  | normal =>
    obtain ⟨hl1, hbody⟩ := hq
    refine ⟨_, run_beginRound hl1 hst, ?_⟩
    refine wpIn_mono (hbody _ _ rfl (World.putObj_heap_same (Array.getElem?_eq_some_iff.1 hl1).1) (grownBy_putObj' _ _ _)) ?_
    rintro e a3 W3 hp
    cases e with
    | normal =>
      obtain ⟨hl3, hr⟩ := hp
      exact ⟨_, _, run_endRound none hl3, hr⟩
    | ret =>
      obtain ⟨hl3, hr⟩ := hp
      exact ⟨_, _, run_endRound (some .ret) hl3, hr⟩
    | exit id =>
      obtain ⟨hl3, hr⟩ := hp
      exact ⟨_, _, run_endRound (some (.exit id)) hl3, hr⟩
    | goto t => exact hp.elim
    | panic ch => exact hp.elim
    | outgrown => exact hp.elim
  | _ => exact hq.elim
/-- the statement: the record and the block for deferred calls are new; behind the iterator the record is not busy -/
theorem wpIn_rf {P : Program} {F : Fence} {n : Nat} {g : Operand} {ps : Array Tmp} {assign body : Code} {Q : Exit → Act → World → Prop} {a : Act} {w : World}
    (hro : F.round = none) (h1 : 1 ≤ n) {gf : Nat} {lb : Array Value} (hg : a.eval g = .func (.func gf) #[] lb) (hFg : F.fn gf) (eg : ∀ args w, (callFunc gf args).run P w = .ok (.enter gf args) w)
    (h : ∀ fn, F.fn fn → ∀ W1, W1 = (w.alloc (.deferred (some []))).alloc (.loop { state := .ready, pending := none, fn, tmps := a.tmps, params := ps, assign, body, defers := w.heap.size }) →
      W1.heap[w.heap.size + 1]? = some (.loop { state := .ready, pending := none, fn, tmps := a.tmps, params := ps, assign, body, defers := w.heap.size }) →
      W1.heap[w.heap.size]? = some (.deferred (some [])) →
      CallsIn F (n - 1) P gf (#[.func (.yield (w.heap.size + 1)) #[] #[]] ++ lb) W1 fun e W2 => (∃ v, e = .returned v) ∧ ∃ r : Loop, W2.heap[w.heap.size + 1]? = some (.loop r) ∧ r.state ≠ .busy ∧
        ((r.pending = none ∧ ∀ W3 o, W3 = W2.putObj (w.heap.size + 1) o → Q .normal { a with defers := { target := .collected w.heap.size, args := #[] } :: a.defers } W3) ∨
         ∃ c, r.pending = some c ∧ ∀ W3 o, W3 = W2.putObj (w.heap.size + 1) o → c.wpIn F n P Q { a with defers := { target := .collected w.heap.size, args := #[] } :: a.defers } W3)) :
    (Code.rangeFunc g ps assign body).wpIn F n P Q a w := by
  refine wpIn_rangeFunc ?_
  intro fn hfn
  rw [hro]
  obtain ⟨W1, hW1⟩ : ∃ W1, W1 = (w.alloc (.deferred (some []))).alloc (.loop { state := .ready, pending := none, fn, tmps := a.tmps, params := ps, assign, body, defers := w.heap.size }) := ⟨_, rfl⟩
  have hL1 : W1.heap[w.heap.size + 1]? = some (.loop { state := .ready, pending := none, fn, tmps := a.tmps, params := ps, assign, body, defers := w.heap.size }) := by
    rw [hW1]
    have := World.alloc_heap_new (w.alloc (.deferred (some []))) (.loop { state := .ready, pending := none, fn, tmps := a.tmps, params := ps, assign, body, defers := w.heap.size })
    rwa [World.size_alloc] at this
  have hK1 : W1.heap[w.heap.size]? = some (.deferred (some [])) := by
    rw [hW1]; exact (Below.heap_alloc _ _ _ (by simp)).trans (World.alloc_heap_new w _)
  refine ⟨w.heap.size + 1, [{ target := .collected w.heap.size, args := #[] }], W1, { target := .fn (.func gf) lb, args := #[.func (.yield (w.heap.size + 1)) #[] #[]] }, W1, gf,
    #[.func (.yield (w.heap.size + 1)) #[] #[]] ++ lb, W1, by rw [hW1]; exact run_enterLoop_outer _ _ _ _ _, ?_, ?_, ?_, fun _ => h1, ?_⟩
  · simp only [resolve, hg]
    simp [go_sem]
  · intro f' hf'; simp [Target.leads] at hf'; subst hf'; exact hFg
  · simp [invoke, go_sem, eg]
  · refine (h fn hfn W1 hW1 hL1 hK1).mono ?_
    rintro e W2 ⟨⟨v, rfl⟩, r, hl, hb, hq⟩
    refine ⟨r.pending, _, run_endLoop hl hb, ?_⟩
    rcases hq with ⟨hp, hq⟩ | ⟨c, hp, hq⟩
    · have := hq _ (.loop { r with state := .exhausted }) rfl
      rw [hp] at this ⊢; exact this
    · have := hq _ (.loop { r with state := .exhausted }) rfl
      rw [hp] at this ⊢; exact this
end Go.Proofs.YtllbphanfahkkaaGreatDoor

/-
  The walks of package wire: Int, String, PutInt (in range): what each returns; the world as it was, or below its first new block as it was.
-/
namespace Go.Proofs.YtllbphanfahkkaaGreatDoor
open Go.RowKit Go.Shelf
attribute [local go_sem] Oper.semAt_some
def intRes (at_ : Nat) : Option (Int × Nat) → Value
  | none => .tuple #[.int .i64 0, .int .i64 0, .int .i64 10]
  | some (n, k) => .tuple #[.int .i64 n, .int .i64 (at_ + k : Nat), .int .i64 0]
theorem intRes_none (a : Nat) : Ending.returned (.tuple #[.int .i64 0, .int .i64 0, .int .i64 10]) = .returned (intRes a none) := rfl
theorem intRes_some (a k : Nat) (n : Int) : Ending.returned (.tuple #[.int .i64 n, .int .i64 ((a : Int) + k + 1), .int .i64 0]) = .returned (intRes a (some (n, k + 1))) := rfl
set_option maxRecDepth 10000 in
set_option maxHeartbeats 1000000 in
theorem int_walk (s : ByteArray) (at_ : Nat) (w : World) (hs : s.size ≤ 9223372036854775807) (ha : at_ ≤ s.size) :
    Calls Tryz.prog 80 #[.string s, .int .i64 at_] w fun e w' =>
      e = .returned (intRes at_ (RW.decI (s.data.toList.drop at_))) ∧ w = w' := by
  have h0 : ¬ (at_ : Int) < 0 := by omega
  have h1 : ¬ s.size < at_ := by omega
  go_enter Tryz.func80, Tryz.ntmps80
  go_wp2
  go_loop [7, 19] (fun v c => ∃ k z : Nat, k ≤ 9 ∧ at_ + k ≤ s.size ∧ v = .int .u64 z ∧ c = .int .i64 k ∧ z < 2 ^ (7 * k) ∧ Hid (RW.decG (9 - k) k z (s.data.toList.drop (at_ + k)) = RW.decI (s.data.toList.drop at_))) (fun _ c => 9 - (intOf c).toNat)
  case atStart => exact ⟨0, 0, by omega, by omega, rfl, rfl, by omega, rfl⟩
  case round =>
    obtain ⟨k, z, hk, hak, rfl, rfl, hz, hd⟩ := hrel
    by_cases hk9 : k < 9
    · by_cases hin : at_ + k < s.size
      · have hb := s[at_ + k].toNat_lt
        have hor := RW.or_step k z s[at_ + k].toNat hk9 hz hb
        have hzb := RW.pow_step k z s[at_ + k].toNat hz
        have hp := RW.pow9 (k + 1) (by omega)
        have hst := RW.decG_cons (8 - k) k z s[at_ + k] (s.data.toList.drop (at_ + k + 1))
        rw [← RW.drop_cons s (at_ + k) hin, show 8 - k + 1 = 9 - k by omega, Hid.out hd] at hst
        clear hd
        generalize z + (s[at_ + k].toNat % 128) * 2 ^ (7 * k) = z' at hor hzb hst
        have hx := RW.uz_bits z' (by omega)
        have hxb := RW.uz_bd z' (by omega)
        have hstH := hide hst
        clear hst hp
        go_wp2
        · go_round
          case rel => exact ⟨k + 1, z', by omega, by omega, rfl, by go_num, hzb, by rw [show 9 - (k + 1) = 8 - k by omega]; exact (hstH.out.trans (if_pos (by omega))).symm⟩
          case measure => simp [intOf]; omega
        all_goals
          go_ret3
          refine ⟨?_, rfl⟩
          rw [hstH.out, if_neg (by omega)]
        · rw [if_pos (by unfold RW.maxI; omega)]; rfl
        · rw [if_neg (by unfold RW.maxI; omega)]; obtain rfl : k = 0 := by assumption
          exact intRes_some _ 0 _
        · rw [if_pos (by unfold RW.maxI; omega)]; rfl
        · rw [if_pos (by unfold RW.maxI; omega)]; rfl
        · rw [if_neg (by unfold RW.maxI; omega)]; exact intRes_some _ _ _
      · go_wp2
        go_ret3
        exact ⟨by rw [← hd.out, List.drop_eq_nil_of_le (by simp; omega), RW.decG_nil]; rfl, rfl⟩
    · go_wp2
      go_ret3
      exact ⟨by rw [← hd.out, show 9 - k = 0 by omega, RW.decG_zero]; rfl, rfl⟩
def strRes (at_ : Nat) : Option (List UInt8 × Nat) → Value
  | none => .tuple #[.string ⟨#[]⟩, .int .i64 0, .int .i64 10]
  | some (t, k) => .tuple #[.string ⟨t.toArray⟩, .int .i64 (at_ + k : Nat), .int .i64 0]
set_option maxRecDepth 10000 in
set_option maxHeartbeats 1000000 in
theorem str_walk (s : ByteArray) (at_ : Nat) (w : World) (hs : s.size ≤ 9223372036854775807) (ha : at_ ≤ s.size) :
    Calls Tryz.prog 82 #[.string s, .int .i64 at_] w fun e w' =>
      e = .returned (strRes at_ (RW.decS (s.data.toList.drop at_))) ∧ w = w' := by
  have hc := int_walk s at_ w hs ha
  rcases hI : RW.decI (s.data.toList.drop at_) with _ | ⟨n, k⟩
  · rw [hI] at hc
    have hS := hide (RW.decS_none _ hI); clear hI
    have hcH := hide hc; clear hc
    go_enter Tryz.func82, Tryz.ntmps82
    go_wp2_with (go_at_call 80; refine hcH.out.mono ?_; rintro e w' ⟨rfl, rfl⟩; unfold intRes)
    go_ret3
    exact ⟨by rw [hS.out]; rfl, rfl⟩
  · rw [hI] at hc
    have hS := hide (RW.decS_some _ _ _ hI)
    have hk := RW.decI_le _ _ _ hI
    have hn := RW.decI_bd _ _ _ hI
    have hl : (s.data.toList.drop at_).length = s.size - at_ := by simp
    rw [hl] at hk
    have hS2 : Hid (RW.decS (s.data.toList.drop at_) = if n < 0 ∨ 65536 < n ∨ (s.size : Int) - at_ - k < n then none else some (((s.data.toList.drop at_).drop k).take n.toNat, k + n.toNat)) := by
      rw [hS.out, hl]; rw [show ((s.size - at_ : Nat) : Int) = (s.size : Int) - at_ by omega]; exact rfl
    clear hS hI hl
    have hcH := hide hc; clear hc
    by_cases hg : 0 ≤ n ∧ n ≤ 65536 ∧ n ≤ (s.size : Int) - at_ - k
    · obtain ⟨m, rfl⟩ := Int.eq_ofNat_of_zero_le hg.1
      have hg2 : m ≤ 65536 := by omega
      have hg3 : at_ + k + m ≤ s.size := by omega
      clear hg
      have hg4 : (0 : Int) ≤ (at_ : Int) + k := by omega
      have hg5 : (at_ : Int) + k ≤ (at_ : Int) + k + m := by omega
      have hg6 : (at_ : Int) + k + m ≤ (s.size : Int) := by omega
      go_enter Tryz.func82, Tryz.ntmps82
      go_wp2_with (go_at_call 80; refine hcH.out.mono ?_; rintro e w' ⟨rfl, rfl⟩; unfold intRes)
      go_ret3
      refine ⟨?_, rfl⟩
      rw [hS2.out, if_neg (by omega)]
      simp only [strRes, Int.toNat_natCast, List.drop_drop]
      have e := RW.extract_eq s (at_ + k) (at_ + k + m) hg3
      rw [show at_ + k + m - (at_ + k) = m by omega] at e
      rw [← e]
      simp [Int.add_assoc]
    · go_enter Tryz.func82, Tryz.ntmps82
      go_wp2_with (go_at_call 80; refine hcH.out.mono ?_; rintro e w' ⟨rfl, rfl⟩; unfold intRes)
      all_goals
        first
        | (exfalso; omega)
        | (go_ret3
           exact ⟨by rw [hS2.out, if_pos (by omega)]; rfl, rfl⟩)
set_option maxRecDepth 100000 in
set_option maxHeartbeats 1000000 in
theorem groups1 (F : Fence) (n : Nat) (h6 : F.fn 148) (hro : F.round = none) (hn : 1 ≤ n) (l zb : Nat) (J : List (Nat × Bool) → World → Prop)
    (hJ : ∀ pre W v, J pre W → J pre (W.setCell ⟨zb, 0, none⟩ v))
    (hY : ∀ pre (g : Nat) (gi : Int) (b : Bool) W, gi = (g : Int) → g < 128 → pre.length < 10 → J pre W → YieldAt F (n - 1) Tryz.prog l #[.int .u8 gi, .bool b] W fun e W' =>
      e = .returned (.bool true) ∧ J (pre ++ [(g, b)]) W' ∧ W'.cell? ⟨zb, 0, none⟩ = W.cell? ⟨zb, 0, none⟩ ∧ W'.frozen? ⟨zb, 0, none⟩ = W.frozen? ⟨zb, 0, none⟩)
    (z : Nat) (hz : z < 9223372036854775808) (W : World) (hc : W.cell? ⟨zb, 0, none⟩ = some (.int .u64 z)) (hf : W.frozen? ⟨zb, 0, none⟩ = false) (h0 : J [] W) :
    CallsIn F n Tryz.prog 148 #[.func (.yield l) #[] #[], .pointer (some ⟨zb, 0, none⟩)] W fun e W' => (∃ v, e = .returned v) ∧ J (RW.grp 10 z) W' := by
  refine callsIn_of_wp Tryz.func148 rfl h6 ?_ hro
  simp only [Tryz.ntmps148, List.size_toArray, List.length_cons, List.length_nil, Nat.reduceAdd, Nat.reduceSub, Array.replicate_succ, Array.replicate_zero, List.push_toArray, List.append_toArray, List.nil_append, List.cons_append]
  gi_wp2
  gi_loopw [3] (fun (_ : Value) wr => ∃ (f z' : Nat) (pre : List (Nat × Bool)), pre.length + f + 1 ≤ 10 ∧ Hid (pre ++ RW.grp (f + 1) z' = RW.grp 10 z) ∧ z' < 2 ^ (7 * (f + 1)) ∧ z' < 9223372036854775808 ∧ wr.cell? ⟨zb, 0, none⟩ = some (.int .u64 z') ∧ wr.frozen? ⟨zb, 0, none⟩ = false ∧ J pre wr)
    (fun (_ : Value) wr => RW.natOf (wr.cell? ⟨zb, 0, none⟩))
  case atStart => exact ⟨9, z, [], by simp, rfl, by omega, hz, hc, hf, h0⟩
  case round =>
    obtain ⟨f, z', pre, hpl, hg, hzf, hz', hcz, hfz, hJp⟩ := hrel
    have hand := RW.and127 z' (by omega)
    have hm : z' % 128 < 128 := Nat.mod_lt _ (by decide)
    obtain ⟨fn, tmps, assign, body, hy, hR⟩ := hY pre (z' % 128) ((z' : Int) % 128) (decide ((z' : Int) < 128)) wr (by omega) hm (by omega) hJp
    by_cases hlt : z' < 128
    · gi_wp2
      refine hR.mono ?_
      rintro e W3 ⟨rfl, hJ3, hc3, hf3⟩
      gi_wp2
      refine bodyPost_ret (results_none rfl _ _ _) rfl ?_
      refine ⟨⟨_, rfl⟩, ?_⟩
      rw [← hg.out, RW.grp_lo _ _ hlt]
      rw [Nat.mod_eq_of_lt hlt, decide_eq_true (by omega)] at hJ3
      exact hJ3
    · gi_wp2
      refine hR.mono ?_
      rintro e W3 ⟨rfl, hJ3, hc3, hf3⟩
      rw [hcz] at hc3
      rw [hfz] at hf3
      gi_wp2
      go_roundw
      case rel =>
        obtain ⟨f, rfl⟩ : ∃ f', f = f' + 1 := by
          cases f with
          | zero => simp at hzf; omega
          | succ f => exact ⟨f, rfl⟩
        refine ⟨f, z' / 128, pre ++ [(z' % 128, false)], by simp; omega, ?_, ?_, by omega, ?_, ?_, ?_⟩
        · show _ = _
          rw [← hg.out, RW.grp_hi _ _ hlt, List.append_assoc]; rfl
        · have : 2 ^ (7 * (f + 1 + 1)) = 128 * 2 ^ (7 * (f + 1)) := by rw [Nat.mul_add, Nat.pow_add]; omega
          omega
        · rw [World.cell?_setCell_same' _ _ _ (by rw [hc3]; rfl)]; rfl
        · rw [World.frozen?_setCell]; exact hf3
        · rw [decide_eq_false (by omega)] at hJ3
          exact hJ _ _ _ hJ3
      case measure =>
        rw [World.cell?_setCell_same' _ _ _ (by rw [hc3]; rfl), hcz]
        simp [RW.natOf, intOf]; omega
theorem groups_in (F : Fence) (n : Nat) (h7 : F.fn 128) (hro : F.round = none) (z : Int) (w : World) :
    CallsIn F n Tryz.prog 128 #[.int .u64 z] w fun e w' => e = .returned (.func (.func 148) #[] #[.pointer (some ⟨w.heap.size, 0, none⟩)]) ∧ w.alloc (.cells #[.int .u64 z] 174) = w' := by
  refine callsIn_of_wp Tryz.func128 rfl h7 ?_ hro
  simp only [Tryz.ntmps128, List.size_toArray, List.length_cons, List.length_nil, Nat.reduceAdd, Nat.reduceSub, Array.replicate_succ, Array.replicate_zero, List.push_toArray, List.append_toArray, List.nil_append, List.cons_append]
  gi_wp2
  go_ret
  exact ⟨rfl, rfl⟩
theorem info5 : (Tryz.prog.info? 5).map (fun i => (i.zero, i.size, i.bytes)) = some (some (.int .u8 0), 1, 1) := by kernel_rfl
set_option maxRecDepth 100000 in
set_option maxHeartbeats 2000000 in
theorem putint_in (F : Fence) (n : Nat) (h35 : F.fn 76) (h71 : F.fn 128) (h88 : F.fn 148) (hro : F.round = none) (hn : 3 ≤ n) (x : Int) (hx1 : -4611686018427387903 ≤ x) (hx2 : x ≤ 4611686018427387903) (w : World) :
    CallsIn F n Tryz.prog 76 #[.int .i64 x] w fun e w' => e = .returned (.tuple #[.string ⟨(RW.putI x).toArray⟩, .int .i64 0]) ∧ Below w.heap.size w w' := by
  have h1 : 1 ≤ n := by omega
  have hzz := RW.zz_bits x (by omega) hx2
  have hzl := RW.zz_lt x hx1 hx2
  obtain ⟨i0, hi, hz0, hz1, hz2⟩ := info_parts info5
  refine callsIn_of_wp_marks Tryz.func76 rfl h35 ?_ hro
  simp only [Tryz.ntmps76, List.size_toArray, List.length_cons, List.length_nil, Nat.reduceAdd, Nat.reduceSub, Array.replicate_succ, Array.replicate_zero, List.push_toArray, List.append_toArray, List.nil_append, List.cons_append]
  gi_wp2_with (gi_at_call 128; refine (groups_in F (n - 1) h71 hro _ _).mono ?_; rintro e w' ⟨rfl, rfl⟩)
  clear hzz
  have bO := Boxed.new w 39 (.slice none 0 0)
  have bZ := Boxed.new (w.alloc (.cells #[.slice none 0 0] 39)) 174 (.int .u64 (RW.zz x))
  rw [World.size_alloc] at bZ
  obtain ⟨w0, hw0⟩ : ∃ w0, w0 = (w.alloc (.cells #[.slice none 0 0] 39)).alloc (.cells #[.int .u64 (RW.zz x)] 174) := ⟨_, rfl⟩
  have hB0 : Below w.heap.size w w0 := by rw [hw0]; exact ((Below.refl _ w).alloc (Nat.le_refl _) _).alloc (by simp) _
  have hs0 : w0.heap.size = w.heap.size + 2 := by rw [hw0]; simp
  have bO0 := bO.alloc (.cells #[.int .u64 (RW.zz x)] 174)
  rw [← hw0] at bO0 bZ ⊢
  clear bO
  refine wpIn_rf hro h1 (gf := 148) (lb := #[.pointer (some ⟨w.heap.size + 1, 0, none⟩)]) rfl h88 (enters_of Tryz.func148 (by kernel_rfl) rfl) ?_
  intro fn hfn W1 hW1 hL1 hK1
  have hB1 : Below w.heap.size w W1 := by rw [hW1]; exact (hB0.alloc (by omega) _).alloc (by simp; omega) _
  have bO1 : Boxed W1 w.heap.size 39 (.slice none 0 0) := by rw [hW1]; exact (bO0.alloc _).alloc _
  have bZ1 : Boxed W1 (w.heap.size + 1) 174 (.int .u64 (RW.zz x)) := by rw [hW1]; exact (bZ.alloc _).alloc _
  clear hW1
  have hnl : w.heap.size + 1 ≠ w0.heap.size + 1 := by omega
  have hnd : w.heap.size + 1 ≠ w0.heap.size := by omega
  generalize hrec : ({ state := .ready, pending := none, fn, tmps := _, params := _, assign := _, body := _, defers := w0.heap.size } : Loop) = rec at hL1 ⊢
  refine (groups1 F (n - 1) h88 hro (by omega) (w0.heap.size + 1) (w.heap.size + 1)
    (fun pre W => pre.length ≤ 10 ∧ Below w.heap.size w W ∧ W.heap[w0.heap.size + 1]? = some (.loop rec) ∧ W.heap[w0.heap.size]? = some (.deferred (some [])) ∧
      (∃ u, Boxed W (w.heap.size + 1) 174 u) ∧ ∃ v, Boxed W w.heap.size 39 v ∧ W.ownsRow w.heap.size 5 1 v pre.length (RW.bytesV (pre.map RW.gbyte)))
    ?_ ?_ (RW.zz x) hzl W1 bZ1.cell bZ1.frozen ⟨by simp, hB1, hL1, hK1, ⟨_, bZ1⟩, _, bO1, World.ownsRow_nil _ _ _ _⟩).mono ?_
  · rintro pre W u ⟨hp, hB, hl, hk, ⟨u0, hu⟩, v, hv, hr⟩
    have hne : some (w.heap.size + 1) ≠ v.ownBlock := hu.not_row (by decide) hr
    refine ⟨hp, hB.setCell (by simp) _, (Below.heap_setCell _ _ _ _ (by simp; omega)).trans hl, (Below.heap_setCell _ _ _ _ (by simp; omega)).trans hk, ⟨u, hu.set u⟩, v, hv.kept (grownBy_setCell' W _ u) (by simp), hr.kept (grownBy_setCell' W _ u) (.inr hne.symm)⟩
  · rintro pre g gi b W rfl hg hp10 ⟨hp, hB, hl, hk, ⟨u0, hu⟩, v, hv, hr⟩
    have e1 := congrArg Loop.assign hrec
    have e2 := congrArg Loop.body hrec
    have e3 := congrArg Loop.params hrec
    have e4 := congrArg Loop.tmps hrec
    have e5 := congrArg Loop.fn hrec
    have e6 := congrArg Loop.state hrec
    have e7 := congrArg Loop.pending hrec
    dsimp only at e1 e2 e3 e4 e5 e6 e7
    have eH := hide (And.intro e1 (And.intro e2 (And.intro e3 (And.intro e4 (And.intro e6 e7)))))
    have hor := RW.or128 g hg
    refine yieldAt_body hl e6.symm (by rw [← e3]; rfl) (by rw [← e5]; exact hfn) ?_
    rw [← e1, ← e2, ← e3, ← e4]
    clear e1 e2 e3 e4 e5 e6 e7 hrec
    gi_wp2
    refine ⟨hl, ?_⟩
    intro W2 busy hbusy hl2 hg2
    have hn1 : some (w.heap.size + 1) ≠ some (w0.heap.size + 1) := by simp; omega
    have hB2 : Below w.heap.size W W2 := (Below.refl _ W).grown hg2 hB.size (fun k e => by cases e; omega)
    have hu2 := hu.kept hg2 (by simp; omega)
    have hv2 := hv.kept hg2 (by simp; omega)
    have hr2 : W2.ownsRow w.heap.size 5 1 v pre.length (RW.bytesV (pre.map RW.gbyte)) := by
      refine hr.kept hg2 ?_
      rcases hr.2 with ⟨rfl, _⟩ | ⟨g', cap, cur, rfl, _, hgb, _⟩
      · exact .inl rfl
      · refine .inr fun e' => ?_
        obtain rfl : g' = w0.heap.size + 1 := by simpa [Value.ownBlock] using e'
        rw [hl] at hgb; cases hgb
    have hk2 : W2.heap[w0.heap.size]? = some (.deferred (some [])) := (hg2.block _ (Array.getElem?_eq_some_iff.1 hk).1 (by simp)).trans hk
    have hc2 := hv2.cell
    have hrdy2 : Hid (({ busy with state := .ready, pending := none } : Loop) = rec) := by
      obtain ⟨e1, e2, e3, e4, e6, e7⟩ := eH.out
      show _ = _
      rw [hbusy]; cases rec; simp_all
    clear hbusy eH
    have hbs := hB2.size
    have hbs0 := hB.size
    have fin : ∀ (gb : UInt8) (w1 : World) (v' : Value) (tmp : Obj) (a : Act) (b : Bool), RW.gbyte (g, b) = gb → w1.ownsRow w.heap.size 5 1 v' (pre.length + 1) (RW.bytesV (pre.map RW.gbyte) ++ [.int .u8 gb.toNat]) → (W2.alloc tmp).grownBy w1 v.ownBlock →
        roundQ (w0.heap.size + 1) busy (fun e W' => e = .returned (.bool true) ∧ ((pre ++ [(g, b)]).length ≤ 10 ∧ Below w.heap.size w W' ∧ W'.heap[w0.heap.size + 1]? = some (.loop rec) ∧ W'.heap[w0.heap.size]? = some (.deferred (some [])) ∧
          (∃ u, Boxed W' (w.heap.size + 1) 174 u) ∧ ∃ v, Boxed W' w.heap.size 39 v ∧ W'.ownsRow w.heap.size 5 1 v (pre ++ [(g, b)]).length (RW.bytesV ((pre ++ [(g, b)]).map RW.gbyte))) ∧
          W'.cell? ⟨w.heap.size + 1, 0, none⟩ = W.cell? ⟨w.heap.size + 1, 0, none⟩ ∧ W'.frozen? ⟨w.heap.size + 1, 0, none⟩ = W.frozen? ⟨w.heap.size + 1, 0, none⟩) .normal a (w1.setCell ⟨w.heap.size, 0, none⟩ v') := by
      intro gb w1 v' tmp a b hgb hown' hgrow
      obtain ⟨hv1, hv3, hr3, hk3, hb3⟩ := hv2.appended (by decide) hr2 (by omega) (Nat.le_refl _) hown' hgrow
      have hu3 : Boxed (w1.setCell ⟨w.heap.size, 0, none⟩ v') (w.heap.size + 1) 174 u0 := ((hu2.alloc tmp).kept hgrow (hu2.not_row (by decide) hr2)).kept (grownBy_setCell' _ _ _) (by simp)
      have hl3 := hk3.same _ _ hl2 rfl
      have hd3 := hk3.same _ _ hk2 rfl
      have hL : w0.heap.size + 1 < (w1.setCell ⟨w.heap.size, 0, none⟩ v').heap.size := (Array.getElem?_eq_some_iff.1 hl3).1
      refine ⟨hl3, ?_⟩
      rw [hrdy2.out]
      have hu4 := hu3.kept (grownBy_putObj' _ (w0.heap.size + 1) (.loop rec)) (by simp; omega)
      refine ⟨rfl, ⟨by simp; omega, ((hB.trans hB2).trans hb3).trans ((Below.refl _ _).grown (grownBy_putObj' _ _ _) (by omega) (fun k e => by cases e; omega)), World.putObj_heap_same hL, (World.putObj_heap_other (by omega)).trans hd3, ⟨u0, hu4⟩, v', ?_, ?_⟩, ?_, ?_⟩
      · exact hv3.kept (grownBy_putObj' _ _ _) (by simp; omega)
      · have h5 := ownsRow_putObj hr3 (.loop rec) hl3 rfl
        have e : RW.bytesV ((pre ++ [(g, b)]).map RW.gbyte) = RW.bytesV (pre.map RW.gbyte) ++ [.int .u8 gb.toNat] := by simp [RW.bytesV, hgb]
        rw [e, List.length_append]; exact h5
      · rw [hu4.cell, hu.cell]
      · rw [hu4.frozen, hu.frozen]
    cases b
    · gi_wp2_with (gi_at_builtin; refine wpListIn_append_own _ rfl _ _ 39 rfl w.heap.size 5 i0 (.int .u8 0) 1 1 Tryz.underlying39 hi hz0 hz1 hz2 rfl (by decide) _ _ _ rfl (hr2.alloc _) ⟨W2.heap.size, 0, none⟩ 1 1 [.int .u8 ((g + 128 : Nat) : Int)] rfl rfl (cell_one_new _ _ _) (by simp [Value.oneCell']) (by unfold maxLen; omega) (by omega) (by simp; omega) ?_; intro v' w1 hown' hgrow _; obtain ⟨g', cap', rfl⟩ := ownsRow_succ hown'; obtain ⟨hv1, hv3, hr3, hk3, hb3⟩ := hv2.appended (by decide) hr2 (by omega) (Nat.le_refl _) hown' hgrow; have hc1 := hv1.cell; have hf1 := hv1.frozen)
      refine fin (UInt8.ofNat (g + 128)) _ _ _ _ false rfl ?_ hgrow
      rw [UInt8.toNat_ofNat_of_lt' (show _ < 256 by omega)]; exact hown'
    · gi_wp2_with (gi_at_builtin; refine wpListIn_append_own _ rfl _ _ 39 rfl w.heap.size 5 i0 (.int .u8 0) 1 1 Tryz.underlying39 hi hz0 hz1 hz2 rfl (by decide) _ _ _ rfl (hr2.alloc _) ⟨W2.heap.size, 0, none⟩ 1 1 [.int .u8 (g : Int)] rfl rfl (cell_one_new _ _ _) (by simp [Value.oneCell']) (by unfold maxLen; omega) (by omega) (by simp; omega) ?_; intro v' w1 hown' hgrow _; obtain ⟨g', cap', rfl⟩ := ownsRow_succ hown'; obtain ⟨hv1, hv3, hr3, hk3, hb3⟩ := hv2.appended (by decide) hr2 (by omega) (Nat.le_refl _) hown' hgrow; have hc1 := hv1.cell; have hf1 := hv1.frozen)
      refine fin (UInt8.ofNat g) _ _ _ _ true rfl ?_ hgrow
      rw [UInt8.toNat_ofNat_of_lt' (show _ < 256 by omega)]; exact hown'
  · rintro e W2 ⟨⟨u, rfl⟩, hp, hB, hl, hk, _, v, hv, hr⟩
    have e6 := congrArg Loop.state hrec
    have e7 := congrArg Loop.pending hrec
    dsimp only at e6 e7
    refine ⟨⟨u, rfl⟩, rec, hl, by rw [← e6]; decide, .inl ⟨e7.symm, ?_⟩⟩
    clear e6 e7 hrec
    intro W3 oo hW3
    have hg3 := grownBy_putObj' W2 (w0.heap.size + 1) oo
    have hr3 := ownsRow_putObj hr oo hl rfl
    rw [← hW3] at hg3 hr3
    have hv3 := hv.kept hg3 (by simp; omega)
    have hk3 : W3.heap[w0.heap.size]? = some (.deferred (some [])) := (hg3.block _ (Array.getElem?_eq_some_iff.1 hk).1 (by simp)).trans hk
    have hB3 : Below w.heap.size w W3 := hB.grown hg3 hB.size (fun k e => by cases e; omega)
    clear hW3 hg3 hr hv hB hl hk
    obtain ⟨kk, hkk⟩ := RW.grp_pos 9 (RW.zz x)
    rw [← RW.putI_grp] at hr3
    rw [hkk] at hr3
    obtain ⟨gg, cap, rfl⟩ := ownsRow_succ hr3
    have hll : (RW.putI x).length = kk + 1 := by rw [RW.putI_grp, List.length_map, hkk]
    have hrun := run_convert_bytes_back (P := Tryz.prog) W3 39 9 5 ⟨gg, 0, none⟩ cap (RW.putI x) Tryz.underlying39 Tryz.underlying5 Tryz.underlying9 (RW.own_cells hr3)
    rw [hll] at hrun
    have hc3 := hv3.cell
    clear hkk hll
    gi_wp2
    refine ⟨by simp, .inl ⟨_, _, rfl, run_takeDeferred hk3, ?_⟩⟩
    exact ⟨_, results_tmp2 rfl _ _ _, rfl, hB3.grown (grownBy_putObj' _ _ _) hB3.size (fun k e => by cases e; omega)⟩
end Go.Proofs.YtllbphanfahkkaaGreatDoor

/-
  The walks of the reference's package for numbers and strings (royaltyref01) and of wire.PutString; PutInt out of range: what each returns; old memory as it was.
-/
namespace Go.Proofs.YtllbphanfahkkaaGreatDoor
open Go.RowKit Go.Shelf
namespace RW
def val : List UInt8 → Nat
  | [] => 0
  | b :: l => b.toNat % 128 + 128 * val l
theorem val_snoc (l : List UInt8) (b : UInt8) : val (l ++ [b]) = val l + (b.toNat % 128) * 2 ^ (7 * l.length) := by
  induction l with
  | nil => simp [val]
  | cons c l ih =>
    simp only [List.cons_append, val, ih, List.length_cons]
    rw [Nat.mul_add, show 7 * (l.length + 1) = 7 * l.length + 7 by omega, Nat.pow_add, ← Nat.mul_assoc, ← Nat.mul_assoc]
    have : 128 * (b.toNat % 128) * 2 ^ (7 * l.length) = (b.toNat % 128) * 2 ^ (7 * l.length) * 2 ^ 7 := by rw [Nat.mul_comm 128, Nat.mul_assoc, Nat.mul_comm 128, ← Nat.mul_assoc]
    omega
theorem val_pos (l : List UInt8) (b : UInt8) (hb : b.toNat < 128) (h : b.toNat ≠ 0) : 0 < val (l ++ [b]) := by
  induction l with
  | nil => simp [val]; omega
  | cons c l ih => simp only [List.cons_append, val]; omega
theorem ofNat_toNat' (b : UInt8) : UInt8.ofNat b.toNat = b := by simp
theorem enc_val (f : Nat) : ∀ (l : List UInt8) (b : UInt8), l.length < f → (∀ c ∈ l, 128 ≤ c.toNat) → b.toNat < 128 → (encF f (val (l ++ [b])) = l ++ [b] ↔ ¬ (b.toNat = 0 ∧ 0 < l.length)) := by
  induction f with
  | zero => intro l b h; omega
  | succ f ih =>
    intro l b hlen hall hb
    cases l with
    | nil =>
      have : val ([] ++ [b]) = b.toNat := by simp [val]; omega
      rw [this, encF, if_pos hb]; simp
    | cons c l =>
      have hc := hall c (by simp)
      have hcl := c.toNat_lt
      have hv : val (c :: l ++ [b]) = c.toNat % 128 + 128 * val (l ++ [b]) := rfl
      rw [hv, encF]
      by_cases h0 : val (l ++ [b]) = 0
      · rw [h0, if_pos (by omega)]
        have hb0 : b.toNat = 0 := by
          apply Classical.byContradiction; intro h
          have := val_pos l b hb h; omega
        constructor
        · intro h; have := congrArg List.length h; simp at this
        · intro h; exact absurd ⟨hb0, by simp⟩ h
      · rw [if_neg (by omega)]
        have e1 : (c.toNat % 128 + 128 * val (l ++ [b])) % 128 + 128 = c.toNat := by omega
        have e2 : (c.toNat % 128 + 128 * val (l ++ [b])) / 128 = val (l ++ [b]) := by omega
        rw [e1, e2, ofNat_toNat', List.cons_append, List.cons_inj_right, ih l b (by simp at hlen; omega) (fun x hx => hall x (by simp [hx])) hb]
        constructor
        · rintro h ⟨h1, _⟩
          refine h ⟨h1, ?_⟩
          cases l with
          | nil => exact absurd (by simp [val, h1]) h0
          | cons => simp
        · rintro h ⟨h1, h2⟩
          exact h ⟨h1, by simp⟩
theorem zz_uz (z : Nat) : zz (uz z) = z := by unfold zz uz; split <;> split <;> omega
theorem take_snoc (s : ByteArray) (a k : Nat) (h : a + k < s.size) : (s.data.toList.drop a).take (k + 1) = (s.data.toList.drop a).take k ++ [s[a + k]] := by
  rw [List.take_succ_eq_append_getElem (by simp; omega)]
  simp; rfl
theorem encF_succ (f z : Nat) (h : z < 128) : encF (f + 1) z = [UInt8.ofNat z] := by rw [encF, if_pos h]
theorem encF_hi (f z : Nat) (h : ¬ z < 128) : encF (f + 1) z = UInt8.ofNat (z % 128 + 128) :: encF f (z / 128) := by rw [encF, if_neg h]
theorem bytesV_snoc (l : List UInt8) (n : Nat) (h : n < 256) : bytesV l ++ [.int .u8 (n : Int)] = bytesV (l ++ [UInt8.ofNat n]) := by
  simp [bytesV]; omega
theorem own_string {w : World} {base : Nat} {e : TypeId} {g n cap : Nat} {l : List UInt8} (h : w.ownsRow base e 1 (.slice (some ⟨g, 0, none⟩) n cap) n (bytesV l)) {P : Program} (src dst : TypeId)
    (hs : P.underlying src = some (.slice e)) (he : P.underlying e = some (.int .u8)) (hd : P.underlying dst = some .string) :
    (convert src dst (.slice (some ⟨g, 0, none⟩) n cap)).run P w = .ok (.string ⟨l.toArray⟩) w := by
  have hn : l.length = n := by have := h.1; simpa [bytesV] using this
  have := run_convert_bytes_back (P := P) w src dst e ⟨g, 0, none⟩ cap l hs he hd (own_cells h)
  rw [hn] at this; exact this
end RW


/-- wire.PutInt, out of range -/
theorem putint_out (x : Int) (hx : x < -4611686018427387903 ∨ 4611686018427387903 < x) (w : World) :
    Calls Tryz.prog 76 #[.int .i64 x] w fun e w' => e = .returned (.tuple #[.string ⟨#[]⟩, .int .i64 10]) ∧ w = w' := by
  by_cases h1 : x < -4611686018427387903
  · go_enter Tryz.func76, Tryz.ntmps76
    go_wp2
    go_ret2
    exact ⟨rfl, rfl⟩
  · have h2 : 4611686018427387903 < x := by omega
    go_enter Tryz.func76, Tryz.ntmps76
    go_wp2
    go_ret2
    exact ⟨rfl, rfl⟩
theorem putint (x : Int) (hx1 : -4611686018427387903 ≤ x) (hx2 : x ≤ 4611686018427387903) (w : World) :
    Calls Tryz.prog 76 #[.int .i64 x] w fun e w' => e = .returned (.tuple #[.string ⟨(RW.putI x).toArray⟩, .int .i64 0]) ∧ Below w.heap.size w w' :=
  callsIn_wide.1 (putint_in Fence.wide 3 trivial trivial trivial rfl (by omega) x hx1 hx2 w)

set_option maxHeartbeats 400000 in
theorem zigzag_any (x : Int) (hx1 : -4611686018427387904 ≤ x) (hx2 : x ≤ 4611686018427387903) (w : World) :
    Calls Tryz.prog 103 #[.int .i64 x] w fun e w' => e = .returned (.int .u64 (RW.zz x)) ∧ w = w' := by
  by_cases h : x < 0
  · go_enter Tryz.func103, Tryz.ntmps103
    go_wp2
    go_ret
    exact ⟨ret_int (by unfold RW.zz; split <;> omega), rfl⟩
  · go_enter Tryz.func103, Tryz.ntmps103
    go_wp2
    go_ret
    exact ⟨ret_int (by unfold RW.zz; split <;> omega), rfl⟩

def putRes : Option (List UInt8) → Value
  | none => .tuple #[.string ⟨#[]⟩, .int .i64 10]
  | some l => .tuple #[.string ⟨l.toArray⟩, .int .i64 0]
/-- royaltyref01.PutInt, out of range -/
theorem rputint_out (x : Int) (hx : x < -4611686018427387903 ∨ 4611686018427387903 < x) (w : World) :
    Calls Tryz.prog 61 #[.int .i64 x] w fun e w' => e = .returned (.tuple #[.string ⟨#[]⟩, .int .i64 10]) ∧ w = w' := by
  by_cases h1 : x < -4611686018427387903
  · go_enter Tryz.func61, Tryz.ntmps61
    go_wp2
    go_ret2
    exact ⟨rfl, rfl⟩
  · have h2 : 4611686018427387903 < x := by omega
    go_enter Tryz.func61, Tryz.ntmps61
    go_wp2
    go_ret2
    exact ⟨rfl, rfl⟩
set_option maxRecDepth 10000 in
set_option maxHeartbeats 1000000 in
theorem rputint (x : Int) (hx1 : -4611686018427387903 ≤ x) (hx2 : x ≤ 4611686018427387903) (w : World) :
    Calls Tryz.prog 61 #[.int .i64 x] w fun e w' => e = .returned (.tuple #[.string ⟨(RW.putI x).toArray⟩, .int .i64 0]) ∧ Below w.heap.size w w' := by
  have hz := RW.zz_lt x hx1 hx2
  obtain ⟨i0, hi, hz0, hz1, hz2⟩ := info_parts info5
  go_enter Tryz.func61, Tryz.ntmps61
  go_wp2_with (go_at_call 103; refine (zigzag_any _ (by omega) (by omega) _).mono ?_; rintro e w' ⟨rfl, rfl⟩)
  go_loopw [4, 5] (fun vz v wr => ∃ (f z : Nat) (l : List UInt8), vz = .int .u64 z ∧ z < 2 ^ (7 * (f + 1)) ∧ z < 9223372036854775808 ∧ l.length + f + 1 ≤ 10 ∧ Hid (l ++ RW.encF (f + 1) z = RW.putI x) ∧ wr.ownsRow w.heap.size 5 1 v l.length (RW.bytesV l) ∧ Below w.heap.size w wr)
    (fun vz _ _ => (intOf vz).toNat)
  case atStart => exact ⟨9, RW.zz x, [], rfl, by omega, hz, by simp, rfl, World.ownsRow_nil _ _ _ _, Below.refl _ _⟩
  case round =>
    obtain ⟨f, z, l, rfl, hzf, hz', hlen, hl, hown, hB⟩ := hrel
    have hbs := hB.size
    by_cases hlt : z < 128
    · have hbv := hide (RW.bytesV_snoc l z (by omega))
      go_wp2_with (at_builtin; refine wpList_append_own _ rfl _ _ 39 rfl w.heap.size 5 i0 (.int .u8 0) 1 1 Tryz.underlying39 hi hz0 hz1 hz2 rfl (by decide) _ _ _ rfl (hown.alloc _) ⟨wr.heap.size, 0, none⟩ 1 1 [.int .u8 z] rfl rfl (cell_one_new _ _ _) (by simp [Value.oneCell']) (by unfold maxLen; omega) (by omega) (by simp; omega) ?_; intro v' w1 hown' hgrow _; obtain ⟨g', cap', rfl⟩ := ownsRow_succ hown'; rw [hbv.out] at hown'; have hrun := RW.own_string hown' 39 9 Tryz.underlying39 Tryz.underlying5 Tryz.underlying9)
      go_ret2
      rw [← hl.out, RW.encF_succ _ _ hlt]
      exact ⟨rfl, (hB.alloc hB.size _).grown hgrow (by simp; omega) (fun k e => (hown.lt k e).1)⟩
    · have hbv := hide (RW.bytesV_snoc l (z % 128 + 128) (by omega))
      go_wp2_with (at_builtin; refine wpList_append_own _ rfl _ _ 39 rfl w.heap.size 5 i0 (.int .u8 0) 1 1 Tryz.underlying39 hi hz0 hz1 hz2 rfl (by decide) _ _ _ rfl (hown.alloc _) ⟨wr.heap.size, 0, none⟩ 1 1 [.int .u8 ((z : Int) % 128 + 128)] rfl rfl (cell_one_new _ _ _) (by simp [Value.oneCell']) (by unfold maxLen; omega) (by omega) (by simp; omega) ?_; intro v' w1 hown' hgrow _; obtain ⟨g', cap', rfl⟩ := ownsRow_succ hown')
      go_roundw
      case rel =>
        obtain ⟨f, rfl⟩ : ∃ f', f = f' + 1 := by
          cases f with
          | zero => simp at hzf; omega
          | succ f => exact ⟨f, rfl⟩
        refine ⟨f, z / 128, l ++ [UInt8.ofNat (z % 128 + 128)], by go_num, ?_, by omega, by simp; omega, ?_, ?_, ?_⟩
        · have : 2 ^ (7 * (f + 1 + 1)) = 128 * 2 ^ (7 * (f + 1)) := by rw [Nat.mul_add, Nat.pow_add]; omega
          omega
        · show _ = _
          rw [← hl.out, RW.encF_hi _ _ hlt]; simp
        · rw [← hbv.out, List.length_append]; exact hown'
        · exact (hB.alloc hB.size _).grown hgrow (by simp; omega) (fun k e => (hown.lt k e).1)
      case measure => simp [intOf]; omega
end Go.Proofs.YtllbphanfahkkaaGreatDoor

/-
  The walks of royaltyref01.Int, String, PutString and of wire.PutString: what each returns; old memory as it was.
-/
namespace Go.Proofs.YtllbphanfahkkaaGreatDoor
open Go.RowKit Go.Shelf
namespace RW
theorem add_step (k z b : Nat) (hk : k < 9) (hz : z < 2 ^ (7 * k)) :
    IntKind.u64.wrap ((z : Int) + IntKind.u64.wrap ((b : Int) % 128 * 2 ^ (7 * k))) = ((z + (b % 128) * 2 ^ (7 * k) : Nat) : Int) := by
  have h1 := pow_step k z b hz
  have h2 := pow9 (k + 1) (by omega)
  have e3 : ((b : Int) % 128) * 2 ^ (7 * k) = (((b % 128) * 2 ^ (7 * k) : Nat) : Int) := by
    rw [Int.natCast_mul, Int.natCast_pow]; rfl
  rw [e3, IntKind.wrap_u64, IntKind.wrap_u64]; omega
theorem canon (s : ByteArray) (a k z : Nat) (hk : k < 9) (hin : a + k < s.size) (hv : z = val ((s.data.toList.drop a).take (k + 1))) (ht : (s.data.toList.drop a).take (k + 1) = (s.data.toList.drop a).take k ++ [s[a + k]])
    (hall : ∀ c ∈ (s.data.toList.drop a).take k, 128 ≤ c.toNat) (hb : s[a + k].toNat < 128) (S : ByteArray) (hS : S = ⟨(putI (uz z)).toArray⟩) :
    (S.toList == (s.extract a (a + k + 1)).toList) = decide (¬ (s[a + k].toNat = 0 ∧ 0 < k)) := by
  have hl : ((s.data.toList.drop a).take k).length = k := List.length_take_of_le (by simp; omega)
  have h := enc_val 10 ((s.data.toList.drop a).take k) s[a + k] (by omega) hall hb
  rw [← ht, ← hv, hl] at h
  rw [extract_eq s a (a + k + 1) (by omega), show a + k + 1 - a = k + 1 by omega, ByteArray.toList_eq, ByteArray.toList_eq, hS]
  unfold putI
  rw [zz_uz, Bool.eq_iff_iff, beq_iff_eq, decide_eq_true_iff]
  exact h
end RW
set_option maxRecDepth 10000 in
set_option maxHeartbeats 1000000 in
theorem rint_walk (s : ByteArray) (at_ : Nat) (w : World) (hs : s.size ≤ 9223372036854775807) (ha : at_ ≤ s.size) :
    Calls Tryz.prog 136 #[.string s, .int .i64 at_] w fun e w' =>
      e = .returned (intRes at_ (RW.decI (s.data.toList.drop at_))) ∧ Below w.heap.size w w' := by
  have h0 : ¬ (at_ : Int) < 0 := by omega
  have h1 : ¬ s.size < at_ := by omega
  go_enter Tryz.func136, Tryz.ntmps136
  go_wp2
  go_loopw [7, 8] (fun v c wr => ∃ k z : Nat, k ≤ 9 ∧ v = .int .u64 z ∧ c = .int .i64 k ∧ z < 2 ^ (7 * k) ∧ Hid (RW.decG (9 - k) k z (s.data.toList.drop (at_ + k)) = RW.decI (s.data.toList.drop at_)) ∧
      at_ + k ≤ s.size ∧ Hid (z = RW.val ((s.data.toList.drop at_).take k)) ∧ Hid (∀ c ∈ (s.data.toList.drop at_).take k, 128 ≤ c.toNat) ∧ Below w.heap.size w wr) (fun _ c _ => 9 - (intOf c).toNat)
  case atStart => exact ⟨0, 0, by omega, rfl, rfl, by omega, rfl, by omega, rfl, fun c hc => by simp at hc, Below.refl _ _⟩
  case round =>
    obtain ⟨k, z, hk, rfl, rfl, hz, hd, hak, hv, hall, hB⟩ := hrel
    by_cases hk9 : k < 9
    · by_cases hin : at_ + k < s.size
      · have hb := s[at_ + k].toNat_lt
        have hor := RW.add_step k z s[at_ + k].toNat hk9 hz
        have hzb := RW.pow_step k z s[at_ + k].toNat hz
        have hp := RW.pow9 (k + 1) (by omega)
        have hst := RW.decG_cons (8 - k) k z s[at_ + k] (s.data.toList.drop (at_ + k + 1))
        rw [← RW.drop_cons s (at_ + k) hin, show 8 - k + 1 = 9 - k by omega, Hid.out hd] at hst
        have hts := RW.take_snoc s at_ k hin
        have hvs : z + (s[at_ + k].toNat % 128) * 2 ^ (7 * k) = RW.val ((s.data.toList.drop at_).take (k + 1)) := by
          rw [hts, RW.val_snoc, ← Hid.out hv, List.length_take_of_le (by simp; omega)]
        clear hd hv
        generalize z + (s[at_ + k].toNat % 128) * 2 ^ (7 * k) = z' at hor hzb hst hvs
        have hstH := hide hst
        have hvsH := hide hvs
        have htsH := hide hts
        clear hst hp hvs hts
        by_cases hb128 : 128 ≤ s[at_ + k].toNat
        · go_wp2
          go_roundw
          case rel => exact ⟨k + 1, z', by omega, rfl, by go_num, hzb, by rw [show 9 - (k + 1) = 8 - k by omega]; exact (hstH.out.trans (if_pos (by omega))).symm, by omega, hvsH.out, by
              show ∀ c ∈ _, _
              rw [htsH.out]; intro c hc; rcases List.mem_append.1 hc with h | h
              · exact hall.out c h
              · simp at h; rw [h]; exact hb128, hB⟩
          case measure => simp [intOf]; omega
        · have hz63 : z' < 9223372036854775808 := by
            have := RW.pow9 (k + 1) (by omega); omega
          have hub := RW.uz_bd z' hz63
          have g1 : (0 : Int) ≤ (at_ : Int) := by omega
          have g2 : (at_ : Int) ≤ (at_ : Int) + k + 1 := by omega
          have g3 : (at_ : Int) + k + 1 ≤ (s.size : Int) := by omega
          have hpar : ((z' : Int) % 2 == 1) = true ∧ RW.uz z' = -((z' : Int) / 2) - 1 ∨ ((z' : Int) % 2 == 1) = false ∧ RW.uz z' = (z' : Int) / 2 := by
            unfold RW.uz
            rcases Nat.mod_two_eq_zero_or_one z' with h | h
            · right; rw [if_neg (by omega)]; simp; omega
            · left; rw [if_pos h]; simp; omega
          rcases hpar with ⟨ht, hu⟩ | ⟨ht, hu⟩
          all_goals
            have huH := hide hu
            clear hu
            by_cases hbad : RW.uz z' < -4611686018427387903
            · go_wp2_with (go_at_call 61; refine (rputint_out _ (by have := huH.out; omega) _).mono ?_; rintro e w' ⟨rfl, rfl⟩)
              go_ret3
              refine ⟨?_, hB⟩
              rw [hstH.out, if_neg hb128, if_pos (.inr hbad)]; rfl
            · go_wp2_with (go_at_call 61; refine (rputint _ (by have := huH.out; omega) (by have := huH.out; omega) _).mono ?_; rintro e w1 ⟨rfl, hB1⟩; rw [← huH.out]; obtain ⟨S, hS⟩ : ∃ S : ByteArray, S = ⟨(RW.putI (RW.uz z')).toArray⟩ := ⟨_, rfl⟩; rw [← hS]; have hSH := hide hS; clear hS)
              all_goals
                have hcan := RW.canon s at_ k z' hk9 hin hvsH.out htsH.out hall.out (by omega) S hSH.out
              · have hne : (!S.toList == (s.extract at_ (at_ + k + 1)).toList) = true := by assumption
                rw [hcan] at hne
                go_ret3
                refine ⟨?_, hB.trans (hB1.mono hB.size)⟩
                rw [hstH.out, if_neg hb128, if_pos (.inl (Classical.byContradiction fun hP => by rw [decide_eq_true hP] at hne; cases hne))]; rfl
              · have hne : (!S.toList == (s.extract at_ (at_ + k + 1)).toList) = false := by assumption
                rw [hcan] at hne
                go_ret3
                refine ⟨?_, hB.trans (hB1.mono hB.size)⟩
                have hno : ¬ ((s[at_ + k].toNat = 0 ∧ 0 < k) ∨ RW.uz z' < -RW.maxI) := by
                  rintro (h | h)
                  · rw [decide_eq_false (not_not_intro h)] at hne; cases hne
                  · unfold RW.maxI at h; omega
                rw [hstH.out, if_neg hb128, if_neg hno]; exact intRes_some _ _ _
      · go_wp2
        go_ret3
        exact ⟨by rw [← hd.out, List.drop_eq_nil_of_le (by simp; omega), RW.decG_nil]; rfl, hB⟩
    · go_wp2
      go_ret3
      exact ⟨by rw [← hd.out, show 9 - k = 0 by omega, RW.decG_zero]; rfl, hB⟩
end Go.Proofs.YtllbphanfahkkaaGreatDoor

/-
  The walks of royaltyref01.String, PutString and of wire.PutString: what each returns; old memory as it was.
-/
namespace Go.Proofs.YtllbphanfahkkaaGreatDoor
open Go.RowKit Go.Shelf
set_option maxRecDepth 10000 in
set_option maxHeartbeats 1000000 in
theorem rstr_walk (s : ByteArray) (at_ : Nat) (w : World) (hs : s.size ≤ 9223372036854775807) (ha : at_ ≤ s.size) :
    Calls Tryz.prog 93 #[.string s, .int .i64 at_] w fun e w' =>
      e = .returned (strRes at_ (RW.decS (s.data.toList.drop at_))) ∧ Below w.heap.size w w' := by
  have hc := rint_walk s at_ w hs ha
  rcases hI : RW.decI (s.data.toList.drop at_) with _ | ⟨n, k⟩
  · rw [hI] at hc
    have hS := hide (RW.decS_none _ hI); clear hI
    have hcH := hide hc; clear hc
    go_enter Tryz.func93, Tryz.ntmps93
    go_wp2_with (go_at_call 136; refine hcH.out.mono ?_; rintro e w' ⟨rfl, hB⟩; unfold intRes)
    go_ret3
    exact ⟨by rw [hS.out]; rfl, hB⟩
  · rw [hI] at hc
    have hS := hide (RW.decS_some _ _ _ hI)
    have hk := RW.decI_le _ _ _ hI
    have hn := RW.decI_bd _ _ _ hI
    have hl : (s.data.toList.drop at_).length = s.size - at_ := by simp
    rw [hl] at hk
    have hS2 : Hid (RW.decS (s.data.toList.drop at_) = if n < 0 ∨ 65536 < n ∨ (s.size : Int) - at_ - k < n then none else some (((s.data.toList.drop at_).drop k).take n.toNat, k + n.toNat)) := by
      rw [hS.out, hl]; rw [show ((s.size - at_ : Nat) : Int) = (s.size : Int) - at_ by omega]; exact rfl
    clear hS hI hl
    have hcH := hide hc; clear hc
    by_cases hg : 0 ≤ n ∧ n ≤ 65536 ∧ n ≤ (s.size : Int) - at_ - k
    · obtain ⟨m, rfl⟩ := Int.eq_ofNat_of_zero_le hg.1
      have hg2 : m ≤ 65536 := by omega
      have hg3 : at_ + k + m ≤ s.size := by omega
      clear hg
      have hg4 : (0 : Int) ≤ (at_ : Int) + k := by omega
      have hg5 : (at_ : Int) + k ≤ (at_ : Int) + k + m := by omega
      have hg6 : (at_ : Int) + k + m ≤ (s.size : Int) := by omega
      go_enter Tryz.func93, Tryz.ntmps93
      go_wp2_with (go_at_call 136; refine hcH.out.mono ?_; rintro e w' ⟨rfl, hB⟩; unfold intRes)
      go_ret3
      refine ⟨?_, hB⟩
      rw [hS2.out, if_neg (by omega)]
      simp only [strRes, Int.toNat_natCast, List.drop_drop]
      have e := RW.extract_eq s (at_ + k) (at_ + k + m) hg3
      rw [show at_ + k + m - (at_ + k) = m by omega] at e
      rw [← e]
      simp [Int.add_assoc]
    · go_enter Tryz.func93, Tryz.ntmps93
      go_wp2_with (go_at_call 136; refine hcH.out.mono ?_; rintro e w' ⟨rfl, hB⟩; unfold intRes)
      all_goals
        first
        | (exfalso; omega)
        | (go_ret3
           exact ⟨by rw [hS2.out, if_pos (by omega)]; rfl, hB⟩)
namespace RW
/-- the encoding of a string of at most 65536 bytes -/
def putS (l : List UInt8) : List UInt8 := putI l.length ++ l
theorem append_str (a : List UInt8) (s : ByteArray) : (⟨a.toArray⟩ : ByteArray) ++ s = ⟨(a ++ s.data.toList).toArray⟩ := by
  apply ByteArray.ext
  rw [ByteArray.data_append]
  apply Array.ext'
  simp
theorem putI_len (x : Int) : (putI x).length ≤ 10 := by rw [putI_grp, List.length_map]; exact grp_len _ _
theorem putS_eq (s : ByteArray) : putS s.data.toList = putI s.size ++ s.data.toList := by
  unfold putS; rw [Array.length_toList]; rfl
end RW
set_option maxRecDepth 10000 in
theorem putstr (s : ByteArray) (hs : s.size ≤ 65536) (w : World) :
    Calls Tryz.prog 77 #[.string s] w fun e w' => e = .returned (.tuple #[.string ⟨(RW.putS s.data.toList).toArray⟩, .int .i64 0]) ∧ Below w.heap.size w w' := by
  obtain ⟨S, hS⟩ : ∃ S : ByteArray, S = ⟨(RW.putI s.size).toArray⟩ := ⟨_, rfl⟩
  have hSl : S.size ≤ 10 := by rw [hS]; exact (show (RW.putI s.size).toArray.size ≤ 10 by simpa using RW.putI_len s.size)
  have hc := hide (putint s.size (by omega) (by omega) w)
  rw [← hS] at hc
  have hSH := hide hS
  clear hS
  go_enter Tryz.func77, Tryz.ntmps77
  go_wp2_with (go_at_call 76; refine hc.out.mono ?_; rintro e w' ⟨rfl, hB⟩)
  go_ret2
  refine ⟨?_, hB⟩
  rw [RW.putS_eq, ← RW.append_str, ← hSH.out]; rfl
set_option maxRecDepth 10000 in
theorem rputstr (s : ByteArray) (hs : s.size ≤ 65536) (w : World) :
    Calls Tryz.prog 91 #[.string s] w fun e w' => e = .returned (.tuple #[.string ⟨(RW.putS s.data.toList).toArray⟩, .int .i64 0]) ∧ Below w.heap.size w w' := by
  obtain ⟨S, hS⟩ : ∃ S : ByteArray, S = ⟨(RW.putI s.size).toArray⟩ := ⟨_, rfl⟩
  have hSl : S.size ≤ 10 := by rw [hS]; exact (show (RW.putI s.size).toArray.size ≤ 10 by simpa using RW.putI_len s.size)
  have hc := hide (rputint s.size (by omega) (by omega) w)
  rw [← hS] at hc
  have hSH := hide hS
  clear hS
  go_enter Tryz.func91, Tryz.ntmps91
  go_wp2_with (go_at_call 61; refine hc.out.mono ?_; rintro e w' ⟨rfl, hB⟩)
  go_ret2
  refine ⟨?_, hB⟩
  rw [RW.putS_eq, ← RW.append_str, ← hSH.out]; rfl
end Go.Proofs.YtllbphanfahkkaaGreatDoor

/-
  Plain laws on the encodings of numbers and strings: what is encoded is decoded, what is decoded was encoded, and more bytes make no difference to what was read: no program in sight.
-/
namespace Go.Proofs.YtllbphanfahkkaaGreatDoor.RW
open Go Go.RowKit
theorem pow7 (k : Nat) : 2 ^ (7 * (k + 1)) = 128 * 2 ^ (7 * k) := by rw [Nat.mul_add, Nat.pow_add]; omega
theorem uz_zz (n : Int) : uz (zz n) = n := by unfold uz zz; split <;> split <;> omega
theorem byte_toNat (n : Nat) (h : n < 256) : (UInt8.ofNat n).toNat = n := by rw [UInt8.toNat_ofNat']; omega
theorem decG_enc (g : Nat) : ∀ (f i z y : Nat) (rest : List UInt8), y < 2 ^ (7 * f) → 0 < f → y < 2 ^ (7 * g) → 0 < g → (i = 0 ∨ 0 < y) → -maxI ≤ uz (z + y * 2 ^ (7 * i)) →
    decG f i z (encF g y ++ rest) = some (uz (z + y * 2 ^ (7 * i)), i + (encF g y).length) := by
  induction g with
  | zero => intro f i z y rest _ _ _ h; omega
  | succ g ih =>
    intro f i z y rest hf hf0 hg _ h0 hm
    obtain ⟨f, rfl⟩ : ∃ f', f = f' + 1 := ⟨f - 1, by omega⟩
    have h128 : y % 128 < 128 := Nat.mod_lt _ (by decide)
    by_cases hy : y < 128
    · rw [encF, if_pos hy, List.singleton_append, decG_cons, byte_toNat _ (by omega), if_neg (by omega), Nat.mod_eq_of_lt hy, if_neg (by omega)]
      rfl
    · rw [encF, if_neg hy, List.cons_append, decG_cons, byte_toNat _ (by omega), if_pos (by omega), show (y % 128 + 128) % 128 = y % 128 by omega]
      have hf1 : y / 128 < 2 ^ (7 * f) := by rw [pow7] at hf; omega
      have hg1 : y / 128 < 2 ^ (7 * g) := by rw [pow7] at hg; omega
      have hf0' : 0 < f := by
        rcases Nat.eq_zero_or_pos f with h | h
        · subst h; simp at hf1; omega
        · exact h
      have hg0' : 0 < g := by
        rcases Nat.eq_zero_or_pos g with h | h
        · subst h; simp at hg1; omega
        · exact h
      have e : z + y % 128 * 2 ^ (7 * i) + y / 128 * 2 ^ (7 * (i + 1)) = z + y * 2 ^ (7 * i) := by
        rw [pow7, Nat.add_assoc, ← Nat.mul_assoc, ← Nat.add_mul, show y % 128 + y / 128 * 128 = y by omega]
      rw [ih f (i + 1) (z + y % 128 * 2 ^ (7 * i)) (y / 128) rest hf1 hf0' hg1 hg0' (.inr (by omega)) (by rw [e]; exact hm), e, List.length_cons]
      congr 2
      omega
theorem decI_putI (n : Int) (h1 : -4611686018427387903 ≤ n) (h2 : n ≤ 4611686018427387903) (rest : List UInt8) : decI (putI n ++ rest) = some (n, (putI n).length) := by
  have hz := zz_lt n h1 h2
  have h := decG_enc 10 9 0 0 (zz n) rest (by omega) (by omega) (by omega) (by omega) (.inl rfl) (by simp [uz_zz, maxI]; omega)
  unfold decI putI
  rw [h]
  simp [uz_zz]
theorem encF_fuel (g : Nat) : ∀ y, y < 2 ^ (7 * g) → 0 < g → encF (g + 1) y = encF g y := by
  induction g with
  | zero => intro y _ h; omega
  | succ g ih =>
    intro y hy _
    by_cases h : y < 128
    · rw [encF, if_pos h, encF, if_pos h]
    · have h1 : y / 128 < 2 ^ (7 * g) := by rw [pow7] at hy; omega
      have h2 : 0 < g := by
        rcases Nat.eq_zero_or_pos g with e | e
        · subst e; simp at h1; omega
        · exact e
      rw [encF, if_neg h, ih _ h1 h2]
      conv => rhs; rw [encF, if_neg h]
theorem decG_take (f : Nat) : ∀ (i z : Nat) (l : List UInt8) (n : Int) (k : Nat), decG f i z l = some (n, k) →
    ∃ y, n = uz (z + y * 2 ^ (7 * i)) ∧ y < 2 ^ (7 * f) ∧ (i = 0 ∨ 0 < y) ∧ l.take (k - i) = encF f y := by
  induction f with
  | zero => intro i z l n k h; rw [decG_zero] at h; cases h
  | succ f ih =>
    intro i z l n k h
    cases l with
    | nil => cases h
    | cons b l =>
      have hb := b.toNat_lt
      rw [decG_cons] at h
      split at h
      · rename_i h128
        have hk := decG_le _ _ _ _ _ _ h
        obtain ⟨y, hn, hy, h0, ht⟩ := ih _ _ _ _ _ h
        have hy0 : 0 < y := by rcases h0 with h0 | h0 <;> omega
        refine ⟨b.toNat % 128 + y * 128, ?_, by rw [pow7]; omega, .inr (by omega), ?_⟩
        · rw [hn, pow7, Nat.add_mul, Nat.mul_assoc, Nat.add_assoc]
        · rw [encF, if_neg (by omega), show k - i = (k - (i + 1)) + 1 by omega, List.take_succ_cons, ht, show (b.toNat % 128 + y * 128) % 128 + 128 = b.toNat by omega, show (b.toNat % 128 + y * 128) / 128 = y by omega]
          simp
      · rename_i h128
        split at h
        · cases h
        · rename_i hc
          simp at h
          obtain ⟨h1, h2⟩ := h
          refine ⟨b.toNat, ?_, by rw [pow7]; have := Nat.two_pow_pos (7 * f); omega, by omega, ?_⟩
          · rw [← h1, Nat.mod_eq_of_lt (by omega)]
          · rw [encF, if_pos (by omega), show k - i = 0 + 1 by omega, List.take_succ_cons]; simp
theorem decI_take (l : List UInt8) (n : Int) (k : Nat) (h : decI l = some (n, k)) : l.take k = putI n := by
  obtain ⟨y, hn, hy, _, ht⟩ := decG_take 9 0 0 l n k h
  have e : zz n = y := by rw [hn]; simp [zz_uz]
  rw [Nat.sub_zero] at ht
  rw [ht]
  unfold putI
  rw [e]
  exact (encF_fuel 9 y hy (by decide)).symm
theorem decG_append (f : Nat) : ∀ (i z : Nat) (l m : List UInt8) (n : Int) (k : Nat), decG f i z l = some (n, k) → decG f i z (l ++ m) = some (n, k) := by
  induction f with
  | zero => intro i z l m n k h; rw [decG_zero] at h; cases h
  | succ f ih =>
    intro i z l m n k h
    cases l with
    | nil => cases h
    | cons b l =>
      rw [List.cons_append, decG_cons]
      rw [decG_cons] at h
      split at h
      · rename_i hb; rw [if_pos hb]; exact ih _ _ _ _ _ _ h
      · rename_i hb; rw [if_neg hb]; exact h
theorem decI_append (l m : List UInt8) (n : Int) (k : Nat) (h : decI l = some (n, k)) : decI (l ++ m) = some (n, k) := decG_append _ _ _ _ _ _ _ h
theorem decS_putS (s rest : List UInt8) (h : s.length ≤ 65536) : decS (putS s ++ rest) = some (s, (putS s).length) := by
  unfold putS
  have hI := decI_putI s.length (by omega) (by omega) (s ++ rest)
  rw [List.append_assoc, decS_some _ _ _ hI, if_neg (by simp; omega)]
  simp
theorem decS_take (l t : List UInt8) (c : Nat) (h : decS l = some (t, c)) : l.take c = putS t ∧ t.length ≤ 65536 := by
  rcases hI : decI l with _ | ⟨n, k⟩
  · rw [decS_none _ hI] at h; cases h
  · rw [decS_some _ _ _ hI] at h
    have hk := decI_le _ _ _ hI
    have ht := decI_take _ _ _ hI
    split at h
    · cases h
    · rename_i hc
      simp at h
      obtain ⟨h1, h2⟩ := h
      have hl : t.length = n.toNat := by rw [← h1]; simp; omega
      refine ⟨?_, by omega⟩
      unfold putS
      rw [← h2, List.take_add, ht, h1, hl]
      congr 2
      omega
theorem decS_append (l m t : List UInt8) (c : Nat) (h : decS l = some (t, c)) : decS (l ++ m) = some (t, c) := by
  rcases hI : decI l with _ | ⟨n, k⟩
  · rw [decS_none _ hI] at h; cases h
  · rw [decS_some _ _ _ hI] at h
    have hk := decI_le _ _ _ hI
    rw [decS_some _ _ _ (decI_append l m n k hI)]
    split at h
    · cases h
    · rename_i hc
      rw [if_neg (by simp; omega), ← h, List.drop_append_of_le_length (by omega), List.take_append_of_le_length (by simp; omega)]
end Go.Proofs.YtllbphanfahkkaaGreatDoor.RW

/-
  Plain laws for the encoding of numbers and strings (zigzag, groups of seven bits), and laws on a range over a function: no condition beyond each theorem's own premises.
-/
import Derived.Laws.BitsAllLaws
import Derived.RangeFuncWrites
import Derived.RangeFuncBox
import Derived.RangeFuncLeaves
import Derived.Shelf.Abstract
import Derived.WalkKit
import Derived.OwnWalkIn
import Derived.TacticsInMore
import Derived.LoopNIn
import Derived.LoopIn
import Derived.Maps.AppendAt
namespace Go.Proofs.YtllbphanfahkkaaDoor.RW
open Go Go.RowKit
/-- zigzag -/
def zz (n : Int) : Nat := if n < 0 then (2 * (-n) - 1).toNat else (2 * n).toNat
def uz (z : Nat) : Int := if z % 2 = 1 then -((z / 2 : Nat) : Int) - 1 else ((z / 2 : Nat) : Int)
def maxI : Int := 4611686018427387903
def encF : Nat → Nat → List UInt8
  | 0, _ => []
  | f + 1, z => if z < 128 then [UInt8.ofNat z] else UInt8.ofNat (z % 128 + 128) :: encF f (z / 128)
def putI (n : Int) : List UInt8 := encF 10 (zz n)
/-- decode: fuel f = 9 - i -/
def decG : Nat → Nat → Nat → List UInt8 → Option (Int × Nat)
  | 0, _, _, _ => none
  | _ + 1, _, _, [] => none
  | f + 1, i, z, b :: l =>
    if 128 ≤ b.toNat then decG f (i + 1) (z + (b.toNat % 128) * 2 ^ (7 * i)) l
    else if (b.toNat = 0 ∧ 0 < i) ∨ uz (z + (b.toNat % 128) * 2 ^ (7 * i)) < -maxI then none
    else some (uz (z + (b.toNat % 128) * 2 ^ (7 * i)), i + 1)
def decI (l : List UInt8) : Option (Int × Nat) := decG 9 0 0 l

theorem pow_step (k : Nat) (z b : Nat) (hz : z < 2 ^ (7 * k)) : z + (b % 128) * 2 ^ (7 * k) < 2 ^ (7 * (k + 1)) := by
  have h1 : b % 128 < 128 := Nat.mod_lt _ (by decide)
  have h2 : 2 ^ (7 * (k + 1)) = 128 * 2 ^ (7 * k) := by rw [Nat.mul_add, Nat.pow_add]; omega
  have h3 : (b % 128) * 2 ^ (7 * k) ≤ 127 * 2 ^ (7 * k) := Nat.mul_le_mul_right _ (by omega)
  omega
theorem pow9 (k : Nat) (hk : k ≤ 9) : 2 ^ (7 * k) ≤ 9223372036854775808 := by
  have := Nat.pow_le_pow_right (n := 2) (by decide) (show 7 * k ≤ 63 by omega)
  simpa using this
theorem or_step (k z b : Nat) (hk : k < 9) (hz : z < 2 ^ (7 * k)) (hb : b < 256) :
    bits .or .u64 (z : Int) (IntKind.u64.wrap (IntKind.u64.wrap (bits .and .u8 (b : Int) 127) * 2 ^ (7 * k))) = ((z + (b % 128) * 2 ^ (7 * k) : Nat) : Int) := by
  have h1 := pow_step k z b hz
  have h2 := pow9 (k + 1) (by omega)
  have e1 : bits .and .u8 (b : Int) 127 = ((b % 128 : Nat) : Int) := by
    have := u8_and_nat b 127 hb (by decide)
    rw [nat_mask7] at this; exact this
  have e2 : IntKind.u64.wrap ((b % 128 : Nat) : Int) = ((b % 128 : Nat) : Int) := by rw [IntKind.wrap_u64]; omega
  have e3 : ((b % 128 : Nat) : Int) * 2 ^ (7 * k) = (((b % 128) * 2 ^ (7 * k) : Nat) : Int) := by
    rw [Int.natCast_mul, Int.natCast_pow]; rfl
  have e4 : IntKind.u64.wrap (((b % 128) * 2 ^ (7 * k) : Nat) : Int) = (((b % 128) * 2 ^ (7 * k) : Nat) : Int) := by
    rw [IntKind.wrap_u64]; omega
  rw [e1, e2, e3, e4, u64_or_nat _ _ (by omega) (by omega), Nat.or_comm, nat_join (7 * k) _ _ (by simp) hz, Nat.add_comm]
theorem uz_bd (z : Nat) (hz : z < 9223372036854775808) : -4611686018427387904 ≤ uz z ∧ uz z ≤ 4611686018427387903 := by
  unfold uz; split <;> omega
theorem xor_neg (a : Nat) (ha : a < 9223372036854775808) : bits .xor .i64 (a : Int) (-1) = -(a : Int) - 1 := by
  show IntKind.i64.wrap ((BitVec.ofInt 64 (a : Int) ^^^ BitVec.ofInt 64 (-1)).toNat : Int) = _
  have h : BitVec.ofInt 64 (-1) = BitVec.allOnes 64 := by decide
  rw [h, BitVec.xor_allOnes, BitVec.toNat_not, BitVec.ofInt_natCast, BitVec.toNat_ofNat, Nat.mod_eq_of_lt (by omega), IntKind.wrap_i64]
  omega
theorem xor_zero (a : Nat) (ha : a < 9223372036854775808) : bits .xor .i64 (a : Int) 0 = (a : Int) := by
  show IntKind.i64.wrap ((BitVec.ofInt 64 (a : Int) ^^^ BitVec.ofInt 64 0).toNat : Int) = _
  have h : BitVec.ofInt 64 0 = 0#64 := by decide
  rw [h, BitVec.xor_zero, BitVec.ofInt_natCast, BitVec.toNat_ofNat, Nat.mod_eq_of_lt (by omega), IntKind.wrap_i64]
  omega
theorem uz_bits (z : Nat) (hz : z < 9223372036854775808) :
    bits .xor .i64 (wrap64 ((z : Int) / 2)) (wrap64 (-wrap64 (bits .and .u64 (z : Int) 1))) = uz z := by
  have e1 : bits .and .u64 (z : Int) 1 = ((z % 2 : Nat) : Int) := by
    have := u64_and_nat z 1 (by omega) (by decide)
    rw [nat_mask1] at this; exact this
  have e2 : wrap64 ((z : Int) / 2) = ((z / 2 : Nat) : Int) := by rw [IntWalk.wrap64_in _ ⟨by omega, by omega⟩]; omega
  rw [e1, e2]
  unfold uz
  rcases Nat.mod_two_eq_zero_or_one z with h | h
  · rw [h, if_neg (by decide), show wrap64 (-wrap64 ((0 : Nat) : Int)) = 0 by decide +kernel]
    exact xor_zero (z / 2) (by omega)
  · rw [h, if_pos rfl, show wrap64 (-wrap64 ((1 : Nat) : Int)) = -1 by decide +kernel]
    exact xor_neg (z / 2) (by omega)
theorem decG_nil (f i z : Nat) : decG f i z [] = none := by cases f <;> rfl
theorem decG_zero (i z : Nat) (l : List UInt8) : decG 0 i z l = none := by cases l <;> rfl
theorem decG_cons (f i z : Nat) (b : UInt8) (l : List UInt8) : decG (f + 1) i z (b :: l) =
    if 128 ≤ b.toNat then decG f (i + 1) (z + (b.toNat % 128) * 2 ^ (7 * i)) l
    else if (b.toNat = 0 ∧ 0 < i) ∨ uz (z + (b.toNat % 128) * 2 ^ (7 * i)) < -maxI then none
    else some (uz (z + (b.toNat % 128) * 2 ^ (7 * i)), i + 1) := rfl
theorem drop_cons (s : ByteArray) (k : Nat) (h : k < s.size) : s.data.toList.drop k = s[k] :: s.data.toList.drop (k + 1) := by
  rw [List.drop_eq_getElem_cons (by simpa using h)]; rfl
end Go.Proofs.YtllbphanfahkkaaDoor.RW
namespace Go.Proofs.YtllbphanfahkkaaDoor.RW
/-- what decI consumes lies within the list -/
theorem decG_le (f : Nat) : ∀ (i z : Nat) (l : List UInt8) (n : Int) (k : Nat), decG f i z l = some (n, k) → i < k ∧ k ≤ i + l.length ∧ k ≤ i + f := by
  induction f with
  | zero => intro i z l n k h; rw [decG_zero] at h; cases h
  | succ f ih =>
    intro i z l n k h
    cases l with
    | nil => cases h
    | cons b l =>
      rw [decG_cons] at h
      split at h
      · have := ih _ _ _ _ _ h; simp; omega
      · split at h
        · cases h
        · simp at h; simp; omega
theorem decI_le (l : List UInt8) (n : Int) (k : Nat) (h : decI l = some (n, k)) : 0 < k ∧ k ≤ l.length ∧ k ≤ 9 := by
  have := decG_le _ _ _ _ _ _ h; omega
theorem decG_bd (f : Nat) : ∀ (i z : Nat) (l : List UInt8) (n : Int) (k : Nat), z < 2 ^ (7 * i) → i + f ≤ 9 → decG f i z l = some (n, k) → -maxI ≤ n ∧ n ≤ maxI := by
  induction f with
  | zero => intro i z l n k _ _ h; rw [decG_zero] at h; cases h
  | succ f ih =>
    intro i z l n k hz hf h
    cases l with
    | nil => cases h
    | cons b l =>
      rw [decG_cons] at h
      have h1 := pow_step i z b.toNat hz
      split at h
      · exact ih _ _ _ _ _ h1 (by omega) h
      · split at h
        · cases h
        · have h2 := pow9 (i + 1) (by omega)
          have := uz_bd _ (show z + (b.toNat % 128) * 2 ^ (7 * i) < 9223372036854775808 by omega)
          simp at h
          unfold maxI at *
          omega
theorem decI_bd (l : List UInt8) (n : Int) (k : Nat) (h : decI l = some (n, k)) : -4611686018427387903 ≤ n ∧ n ≤ 4611686018427387903 :=
  decG_bd _ _ _ _ _ _ (by decide) (by decide) h
/-- a string at the head -/
def decS (l : List UInt8) : Option (List UInt8 × Nat) :=
  match decI l with
  | none => none
  | some (n, k) => if n < 0 ∨ 65536 < n ∨ (l.length : Int) - k < n then none else some ((l.drop k).take n.toNat, k + n.toNat)
theorem decS_none (l : List UInt8) (h : decI l = none) : decS l = none := by unfold decS; rw [h]
theorem decS_some (l : List UInt8) (n : Int) (k : Nat) (h : decI l = some (n, k)) : decS l =
    if n < 0 ∨ 65536 < n ∨ (l.length : Int) - k < n then none else some ((l.drop k).take n.toNat, k + n.toNat) := by unfold decS; rw [h]
end Go.Proofs.YtllbphanfahkkaaDoor.RW
namespace Go.Proofs.YtllbphanfahkkaaDoor.RW
theorem extract_eq (s : ByteArray) (a b : Nat) (_h : b ≤ s.size) : s.extract a b = ⟨((s.data.toList.drop a).take (b - a)).toArray⟩ := by
  apply ByteArray.ext
  rw [ByteArray.data_extract]
  apply Array.ext'
  simp [Array.toList_extract, List.extract_eq_take_drop]
end Go.Proofs.YtllbphanfahkkaaDoor.RW
namespace Go.Proofs.YtllbphanfahkkaaDoor.RW
open Go Go.RowKit
def grp : Nat → Nat → List (Nat × Bool)
  | 0, _ => []
  | f + 1, z => if z < 128 then [(z, true)] else (z % 128, false) :: grp f (z / 128)
def gbyte (x : Nat × Bool) : UInt8 := UInt8.ofNat (if x.2 then x.1 else x.1 + 128)
theorem grp_lo (f z : Nat) (h : z < 128) : grp (f + 1) z = [(z, true)] := by rw [grp, if_pos h]
theorem grp_hi (f z : Nat) (h : ¬ z < 128) : grp (f + 1) z = (z % 128, false) :: grp f (z / 128) := by rw [grp, if_neg h]
theorem encF_grp (f : Nat) : ∀ z, encF f z = (grp f z).map gbyte := by
  induction f with
  | zero => intro z; rfl
  | succ f ih =>
    intro z
    rw [encF, grp]
    split
    · rfl
    · rw [ih, List.map_cons]; rfl
theorem grp_len (f : Nat) : ∀ z, (grp f z).length ≤ f := by
  induction f with
  | zero => intro z; simp [grp]
  | succ f ih => intro z; rw [grp]; split <;> simp; exact ih _
theorem and127 (z : Nat) (hz : z < 18446744073709551616) : bits .and .u64 (z : Int) 127 = ((z % 128 : Nat) : Int) := by
  have := u64_and_nat z 127 hz (by decide)
  rw [nat_mask7] at this; exact this
def natOf (v : Option Value) : Nat := match v with | some v => (intOf v).toNat | none => 0
end Go.Proofs.YtllbphanfahkkaaDoor.RW
namespace Go.Proofs.YtllbphanfahkkaaDoor.RW
open Go Go.RowKit
theorem zz_bits (x : Int) (h1 : -4611686018427387904 ≤ x) (h2 : x ≤ 4611686018427387903) :
    bits .xor .u64 (IntKind.u64.wrap (IntKind.u64.wrap x * 2)) (IntKind.u64.wrap (x / 9223372036854775808)) = ((zz x : Nat) : Int) := by
  unfold zz
  by_cases h : x < 0
  · rw [if_pos h]
    have e1 : IntKind.u64.wrap (IntKind.u64.wrap x * 2) = (((2 * x + 18446744073709551616).toNat : Nat) : Int) := by
      rw [IntKind.wrap_u64, IntKind.wrap_u64]; omega
    have e2 : IntKind.u64.wrap (x / 9223372036854775808) = ((18446744073709551615 : Nat) : Int) := by rw [IntKind.wrap_u64]; omega
    rw [e1, e2, u64_xor_nat _ _ (by omega) (by omega)]
    have e3 : ∀ a : Nat, a < 2 ^ 64 → a ^^^ 18446744073709551615 = 18446744073709551615 - a := by
      intro a ha
      have := congrArg BitVec.toNat (BitVec.xor_allOnes (x := BitVec.ofNat 64 a))
      rw [BitVec.toNat_xor, BitVec.toNat_not, BitVec.toNat_ofNat, Nat.mod_eq_of_lt ha] at this
      simpa using this
    rw [e3 _ (by omega)]
    omega
  · rw [if_neg h]
    have e1 : IntKind.u64.wrap (IntKind.u64.wrap x * 2) = (((2 * x).toNat : Nat) : Int) := by
      rw [IntKind.wrap_u64, IntKind.wrap_u64]; omega
    have e2 : IntKind.u64.wrap (x / 9223372036854775808) = ((0 : Nat) : Int) := by rw [IntKind.wrap_u64]; omega
    rw [e1, e2, u64_xor_nat _ _ (by omega) (by decide), Nat.xor_zero]
theorem zz_lt (x : Int) (h1 : -4611686018427387903 ≤ x) (h2 : x ≤ 4611686018427387903) : zz x < 9223372036854775808 := by
  unfold zz; split <;> omega
/-- the value of a group's byte in the body -/
theorem or128 (g : Nat) (hg : g < 128) : bits .or .u8 (g : Int) 128 = ((g + 128 : Nat) : Int) := by
  have := u8_or_nat g 128 (by omega) (by decide)
  rw [Nat.or_comm, nat_join 7 128 g (by decide) (by simpa using hg), Nat.add_comm] at this
  exact this
def bytesV (l : List UInt8) : List Value := l.map fun b => .int .u8 b.toNat
end Go.Proofs.YtllbphanfahkkaaDoor.RW
namespace Go.Proofs.YtllbphanfahkkaaDoor.RW
open Go Go.RowKit
theorem bytesV_length (l : List UInt8) : (bytesV l).length = l.length := by simp [bytesV]
theorem bytesV_get (l : List UInt8) (j : Nat) (h : j < l.length) : (bytesV l)[j]? = some (.int .u8 (l[j].toNat : Int)) := by simp [bytesV, h]
theorem putI_grp (x : Int) : putI x = (grp 10 (zz x)).map gbyte := encF_grp _ _
theorem grp_pos (f z : Nat) : ∃ k, (grp (f + 1) z).length = k + 1 := by rw [grp]; split <;> exact ⟨_, rfl⟩
theorem own_cells {w : World} {base : Nat} {e : TypeId} {g n cap : Nat} {l : List UInt8} (h : w.ownsRow base e 1 (.slice (some ⟨g, 0, none⟩) n cap) n (bytesV l)) :
    ∀ j (hj : j < l.length), w.cell? ((⟨g, 0, none⟩ : Addr).add j) = some (.int .u8 (l[j].toNat : Int)) :=
  fun j hj => h.cells (g := g) rfl j _ (bytesV_get l j hj)
end Go.Proofs.YtllbphanfahkkaaDoor.RW
namespace Go.Proofs.YtllbphanfahkkaaDoor
open Go Go.RowKit
theorem hide {p : Prop} (h : p) : Hid p := h
theorem ret_int {k : IntKind} {a b : Int} (h : a = b) : Ending.returned (.int k a) = .returned (.int k b) := by rw [h]
open Go.RowKit
/-- what a round of a loop over a function owes at its end -/
def roundQ (l : Nat) (rec : Loop) (R : Ending → World → Prop) : Exit → Act → World → Prop
  | .normal, _, W => W.heap[l]? = some (.loop rec) ∧ R (.returned (.bool true)) (W.putObj l (.loop { rec with state := .ready, pending := none }))
  | .ret, _, W => W.heap[l]? = some (.loop rec) ∧ R (.returned (.bool false)) (W.putObj l (.loop { rec with state := .done, pending := some .ret }))
  | .exit id, _, W => W.heap[l]? = some (.loop rec) ∧ R (.returned (.bool false)) (W.putObj l (.loop { rec with state := .done, pending := some (.exit id) }))
  | _, _, _ => False
theorem yieldAt_body {P : Program} {F : Fence} {m l : Nat} {W : World} {rec : Loop} {args : Array Value} {R : Ending → World → Prop}
    (hl : W.heap[l]? = some (.loop rec)) (hst : rec.state = .ready) (hsz : args.size = rec.params.size) (hFn : F.fn rec.fn)
    (h : rec.assign.wpIn (F.inRound l) m P (Exit.then (fun a₁ W1 => W1.heap[l]? = some (.loop rec) ∧ ∀ W2 busy, busy = { rec with state := .busy } → W2.heap[l]? = some (.loop busy) → W1.grownBy W2 (some l) → rec.body.wpIn (F.inRound l) m P (roundQ l busy R) a₁ W2) (fun _ _ _ => False))
      { tmps := (rec.params.zip args).foldl (fun t (p, v) => t.setIfInBounds p v) rec.tmps, defers := [] } W) :
    YieldAt F m P l args W R := by
  refine ⟨rec.fn, _, rec.assign, rec.body, run_yield hl hsz, roundIn_of_wpIn hFn (wpIn_mono h ?_)⟩
  intro e a1 W1 hq
  cases e with
  | normal =>
    obtain ⟨hl1, hbody⟩ := hq
    refine ⟨_, run_beginRound hl1 hst, ?_⟩
    refine wpIn_mono (hbody _ _ rfl (World.putObj_heap_same (Array.getElem?_eq_some_iff.1 hl1).1) (grownBy_putObj' _ _ _)) ?_
    rintro e a3 W3 hp
    cases e with
    | normal =>
      obtain ⟨hl3, hr⟩ := hp
      exact ⟨_, _, run_endRound none hl3, hr⟩
    | ret =>
      obtain ⟨hl3, hr⟩ := hp
      exact ⟨_, _, run_endRound (some .ret) hl3, hr⟩
    | exit id =>
      obtain ⟨hl3, hr⟩ := hp
      exact ⟨_, _, run_endRound (some (.exit id)) hl3, hr⟩
    | goto t => exact hp.elim
    | panic ch => exact hp.elim
    | outgrown => exact hp.elim
  | _ => exact hq.elim
/-- the statement: the record and the block for deferred calls are new; behind the iterator the record is not busy -/
theorem wpIn_rf {P : Program} {F : Fence} {n : Nat} {g : Operand} {ps : Array Tmp} {assign body : Code} {Q : Exit → Act → World → Prop} {a : Act} {w : World}
    (hro : F.round = none) (h1 : 1 ≤ n) {gf : Nat} {lb : Array Value} (hg : a.eval g = .func (.func gf) #[] lb) (hFg : F.fn gf) (eg : ∀ args w, (callFunc gf args).run P w = .ok (.enter gf args) w)
    (h : ∀ fn, F.fn fn → ∀ W1, W1 = (w.alloc (.deferred (some []))).alloc (.loop { state := .ready, pending := none, fn, tmps := a.tmps, params := ps, assign, body, defers := w.heap.size }) →
      W1.heap[w.heap.size + 1]? = some (.loop { state := .ready, pending := none, fn, tmps := a.tmps, params := ps, assign, body, defers := w.heap.size }) →
      W1.heap[w.heap.size]? = some (.deferred (some [])) →
      CallsIn F (n - 1) P gf (#[.func (.yield (w.heap.size + 1)) #[] #[]] ++ lb) W1 fun e W2 => (∃ v, e = .returned v) ∧ ∃ r : Loop, W2.heap[w.heap.size + 1]? = some (.loop r) ∧ r.state ≠ .busy ∧
        ((r.pending = none ∧ ∀ W3 o, W3 = W2.putObj (w.heap.size + 1) o → Q .normal { a with defers := { target := .collected w.heap.size, args := #[] } :: a.defers } W3) ∨
         ∃ c, r.pending = some c ∧ ∀ W3 o, W3 = W2.putObj (w.heap.size + 1) o → c.wpIn F n P Q { a with defers := { target := .collected w.heap.size, args := #[] } :: a.defers } W3)) :
    (Code.rangeFunc g ps assign body).wpIn F n P Q a w := by
  refine wpIn_rangeFunc ?_
  intro fn hfn
  rw [hro]
  obtain ⟨W1, hW1⟩ : ∃ W1, W1 = (w.alloc (.deferred (some []))).alloc (.loop { state := .ready, pending := none, fn, tmps := a.tmps, params := ps, assign, body, defers := w.heap.size }) := ⟨_, rfl⟩
  have hL1 : W1.heap[w.heap.size + 1]? = some (.loop { state := .ready, pending := none, fn, tmps := a.tmps, params := ps, assign, body, defers := w.heap.size }) := by
    rw [hW1]
    have := World.alloc_heap_new (w.alloc (.deferred (some []))) (.loop { state := .ready, pending := none, fn, tmps := a.tmps, params := ps, assign, body, defers := w.heap.size })
    rwa [World.size_alloc] at this
  have hK1 : W1.heap[w.heap.size]? = some (.deferred (some [])) := by
    rw [hW1]; exact (Below.heap_alloc _ _ _ (by simp)).trans (World.alloc_heap_new w _)
  refine ⟨w.heap.size + 1, [{ target := .collected w.heap.size, args := #[] }], W1, { target := .fn (.func gf) lb, args := #[.func (.yield (w.heap.size + 1)) #[] #[]] }, W1, gf,
    #[.func (.yield (w.heap.size + 1)) #[] #[]] ++ lb, W1, by rw [hW1]; exact run_enterLoop_outer _ _ _ _ _, ?_, ?_, ?_, fun _ => h1, ?_⟩
  · simp only [resolve, hg]
    simp [go_sem]
  · intro f' hf'; simp [Target.leads] at hf'; subst hf'; exact hFg
  · simp [invoke, go_sem, eg]
  · refine (h fn hfn W1 hW1 hL1 hK1).mono ?_
    rintro e W2 ⟨⟨v, rfl⟩, r, hl, hb, hq⟩
    refine ⟨r.pending, _, run_endLoop hl hb, ?_⟩
    rcases hq with ⟨hp, hq⟩ | ⟨c, hp, hq⟩
    · have := hq _ (.loop { r with state := .exhausted }) rfl
      rw [hp] at this ⊢; exact this
    · have := hq _ (.loop { r with state := .exhausted }) rfl
      rw [hp] at this ⊢; exact this
end Go.Proofs.YtllbphanfahkkaaDoor

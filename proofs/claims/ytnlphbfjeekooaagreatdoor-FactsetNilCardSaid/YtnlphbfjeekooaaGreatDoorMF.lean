/-
  SHA-256 of many strings of one block at once, by numbers that hold a word of each: no program in sight.
-/
import Derived.Laws.BitsAllLaws
import Derived.Test.YtnlphbfjeekooaaGreatDoorRs1
import Derived.Test.YtnlphbfjeekooaaGreatDoorFact7
namespace Go.Proofs.YtnlphbfjeekooaaGreatDoor.RW
open Go Go.RowKit
/-- n lanes of 64 bits -/
def pk : Nat → (Nat → Nat) → Nat
  | 0, _ => 0
  | n + 1, f => f 0 + 18446744073709551616 * pk n (fun i => f (i + 1))
theorem pk_succ (n : Nat) (f : Nat → Nat) : pk (n + 1) f = f 0 + 18446744073709551616 * pk n (fun i => f (i + 1)) := rfl
theorem pk_add : ∀ (n : Nat) (f g : Nat → Nat), pk n f + pk n g = pk n (fun i => f i + g i)
  | 0, _, _ => rfl
  | n + 1, f, g => by
    simp only [pk_succ]
    rw [← pk_add n (fun i => f (i + 1)) (fun i => g (i + 1))]
    omega
theorem pk_mul (c : Nat) : ∀ (n : Nat) (f : Nat → Nat), c * pk n f = pk n (fun i => c * f i)
  | 0, _ => Nat.mul_zero c
  | n + 1, f => by
    simp only [pk_succ]
    rw [← pk_mul c n (fun i => f (i + 1)), Nat.mul_add, Nat.mul_left_comm]
theorem bit_cons (a P j : Nat) (h : a < 18446744073709551616) : (a + 18446744073709551616 * P).testBit j = if j < 64 then a.testBit j else P.testBit (j - 64) := by
  rw [Nat.add_comm]
  exact Nat.testBit_two_pow_mul_add P (i := 64) h j
theorem join_xor (a b P Q : Nat) (ha : a < 18446744073709551616) (hb : b < 18446744073709551616) : (a + 18446744073709551616 * P) ^^^ (b + 18446744073709551616 * Q) = (a ^^^ b) + 18446744073709551616 * (P ^^^ Q) := by
  apply Nat.eq_of_testBit_eq
  intro j
  rw [Nat.testBit_xor, bit_cons _ _ _ ha, bit_cons _ _ _ hb, bit_cons _ _ _ (Nat.xor_lt_two_pow (n := 64) ha hb)]
  split <;> rw [Nat.testBit_xor]
theorem join_and (a b P Q : Nat) (ha : a < 18446744073709551616) (hb : b < 18446744073709551616) : (a + 18446744073709551616 * P) &&& (b + 18446744073709551616 * Q) = (a &&& b) + 18446744073709551616 * (P &&& Q) := by
  apply Nat.eq_of_testBit_eq
  intro j
  rw [Nat.testBit_and, bit_cons _ _ _ ha, bit_cons _ _ _ hb, bit_cons _ _ _ (Nat.and_lt_two_pow (n := 64) _ hb)]
  split <;> rw [Nat.testBit_and]
theorem mask_bit (j : Nat) : (4294967295 : Nat).testBit j = decide (j < 32) := Nat.testBit_two_pow_sub_one 32 j
theorem join_shr (a P Q k : Nat) (ha : a < 18446744073709551616) (hk : k ≤ 32) : ((a + 18446744073709551616 * P) >>> k) &&& (4294967295 + 18446744073709551616 * Q) = ((a >>> k) &&& 4294967295) + 18446744073709551616 * ((P >>> k) &&& Q) := by
  apply Nat.eq_of_testBit_eq
  intro j
  rw [Nat.testBit_and, Nat.testBit_shiftRight, bit_cons _ _ _ ha, bit_cons _ _ _ (by decide), bit_cons _ _ _ (Nat.and_lt_two_pow (n := 64) _ (by decide)), mask_bit]
  by_cases h : j < 64
  · rw [if_pos h, if_pos h, Nat.testBit_and, Nat.testBit_shiftRight, mask_bit]
    by_cases h2 : j < 32
    · rw [if_pos (by omega)]
    · rw [decide_eq_false h2, Bool.and_false, Bool.and_false]
  · rw [if_neg h, if_neg h, if_neg (by omega), Nat.testBit_and, Nat.testBit_shiftRight, show k + j - 64 = k + (j - 64) by omega]
theorem pk_xor : ∀ (n : Nat) (f g : Nat → Nat) (_ : ∀ i, f i < 18446744073709551616) (_ : ∀ i, g i < 18446744073709551616), pk n f ^^^ pk n g = pk n (fun i => f i ^^^ g i)
  | 0, _, _, _, _ => (by decide : (0 : Nat) ^^^ 0 = 0)
  | n + 1, f, g, hf, hg => by
    simp only [pk_succ]
    rw [join_xor _ _ _ _ (hf 0) (hg 0), pk_xor n (fun i => f (i + 1)) (fun i => g (i + 1)) (fun i => hf (i + 1)) (fun i => hg (i + 1))]
theorem pk_and : ∀ (n : Nat) (f g : Nat → Nat) (_ : ∀ i, f i < 18446744073709551616) (_ : ∀ i, g i < 18446744073709551616), pk n f &&& pk n g = pk n (fun i => f i &&& g i)
  | 0, _, _, _, _ => (by decide : (0 : Nat) &&& 0 = 0)
  | n + 1, f, g, hf, hg => by
    simp only [pk_succ]
    rw [join_and _ _ _ _ (hf 0) (hg 0), pk_and n (fun i => f (i + 1)) (fun i => g (i + 1)) (fun i => hf (i + 1)) (fun i => hg (i + 1))]
theorem pk_shr (k : Nat) (hk : k ≤ 32) : ∀ (n : Nat) (f : Nat → Nat) (_ : ∀ i, f i < 18446744073709551616), (pk n f >>> k) &&& pk n (fun _ => 4294967295) = pk n (fun i => (f i >>> k) &&& 4294967295)
  | 0, _, _ => by show (0 >>> k) &&& 0 = 0; simp
  | n + 1, f, hf => by
    simp only [pk_succ]
    rw [join_shr _ _ _ _ (hf 0) hk, pk_shr k hk n (fun i => f (i + 1)) (fun i => hf (i + 1))]
/-- lane i of n lanes -/
theorem pk_lane : ∀ (n : Nat) (f : Nat → Nat) (_ : ∀ i, f i < 18446744073709551616) (i : Nat), i < n → (pk n f >>> (64 * i)) % 18446744073709551616 = f i
  | 0, _, _, _, h => absurd h (Nat.not_lt_zero _)
  | n + 1, f, hf, 0, _ => by
    simp only [pk_succ]
    have := hf 0
    rw [Nat.mul_zero, Nat.shiftRight_zero]
    omega
  | n + 1, f, hf, i + 1, h => by
    simp only [pk_succ]
    have h0 := hf 0
    rw [show 64 * (i + 1) = 64 + 64 * i by omega, Nat.shiftRight_add, show (f 0 + 18446744073709551616 * pk n (fun i => f (i + 1))) >>> 64 = pk n (fun i => f (i + 1)) by
      rw [Nat.shiftRight_eq_div_pow]
      omega]
    exact pk_lane n (fun i => f (i + 1)) (fun i => hf (i + 1)) i (by omega)
/-- X holds the words x of n lanes -/
def Ln (n X : Nat) (x : Nat → Nat) : Prop := X = pk n x ∧ ∀ i, x i < 4294967296
abbrev m32 : Nat := 4294967295
def mk32 (n : Nat) : Nat := pk n (fun _ => m32)
def rotM (M X k : Nat) : Nat := ((4294967297 * X) >>> k) &&& M
def shrM (M X k : Nat) : Nat := (X >>> k) &&& M
theorem and_m32 (a : Nat) : a &&& m32 < 4294967296 := by
  have := Nat.and_le_right (n := a) (m := m32)
  unfold m32 at this
  unfold m32
  omega
section
variable {n X Y : Nat} {x y : Nat → Nat}
theorem Ln.big (h : Ln n X x) (i : Nat) : x i < 18446744073709551616 := by have := h.2 i; omega
theorem Ln.rot (h : Ln n X x) (k : Nat) (hk : k ≤ 32) : Ln n (rotM (mk32 n) X k) (fun i => rotM m32 (x i) k) := by
  refine ⟨?_, fun i => and_m32 _⟩
  unfold rotM mk32
  rw [h.1, pk_mul, pk_shr k hk _ _ (fun i => by have := h.2 i; omega)]
theorem Ln.shr (h : Ln n X x) (k : Nat) (hk : k ≤ 32) : Ln n (shrM (mk32 n) X k) (fun i => shrM m32 (x i) k) := by
  refine ⟨?_, fun i => and_m32 _⟩
  unfold shrM mk32
  rw [h.1, pk_shr k hk _ _ h.big]
theorem Ln.xor (h : Ln n X x) (g : Ln n Y y) : Ln n (X ^^^ Y) (fun i => x i ^^^ y i) :=
  ⟨by rw [h.1, g.1, pk_xor _ _ _ h.big g.big], fun i => Nat.xor_lt_two_pow (n := 32) (h.2 i) (g.2 i)⟩
theorem Ln.and (h : Ln n X x) (g : Ln n Y y) : Ln n (X &&& Y) (fun i => x i &&& y i) :=
  ⟨by rw [h.1, g.1, pk_and _ _ _ h.big g.big], fun i => Nat.and_lt_two_pow (n := 32) _ (g.2 i)⟩
theorem Ln.ones (n : Nat) : Ln n (mk32 n) (fun _ => m32) := ⟨rfl, fun _ => show (4294967295 : Nat) < 4294967296 by decide⟩
/-- .. of sums that are not yet cut -/
def Lb (c n X : Nat) (x : Nat → Nat) : Prop := X = pk n x ∧ ∀ i, x i < c * 4294967296
theorem Ln.b (h : Ln n X x) : Lb 1 n X x := ⟨h.1, fun i => by have := h.2 i; omega⟩
theorem Lb.add {c d : Nat} (h : Lb c n X x) (g : Lb d n Y y) : Lb (c + d) n (X + Y) (fun i => x i + y i) :=
  ⟨by rw [h.1, g.1, pk_add], fun i => by have h1 := h.2 i; have h2 := g.2 i; show x i + y i < _; omega⟩
theorem Lb.cut {c : Nat} (hc : c ≤ 100) (h : Lb c n X x) : Ln n (X &&& mk32 n) (fun i => x i &&& m32) := by
  refine ⟨?_, fun i => and_m32 _⟩
  unfold mk32
  rw [h.1, pk_and _ _ _ (fun i => by have := h.2 i; have : c * 4294967296 ≤ 100 * 4294967296 := Nat.mul_le_mul_right _ hc; omega) (fun _ => by decide)]
end
/-- a number, reckoned before it is handed on -/
def fN {α : Type} (v : Nat) (k : Nat → α) : α := Nat.rec (k 0) (fun m _ => k (Nat.succ m)) v
theorem fN_eq {α : Type} (v : Nat) (k : Nat → α) : fN v k = k v := by cases v <;> rfl
def sg0 (M X : Nat) : Nat := rotM M X 7 ^^^ rotM M X 18 ^^^ shrM M X 3
def sg1 (M X : Nat) : Nat := rotM M X 17 ^^^ rotM M X 19 ^^^ shrM M X 10
def bs0 (M X : Nat) : Nat := rotM M X 2 ^^^ rotM M X 13 ^^^ rotM M X 22
def bs1 (M X : Nat) : Nat := rotM M X 6 ^^^ rotM M X 11 ^^^ rotM M X 25
def chM (M E F G : Nat) : Nat := (E &&& F) ^^^ ((M ^^^ E) &&& G)
def mjM (A B C : Nat) : Nat := (A &&& B) ^^^ (A &&& C) ^^^ (B &&& C)
def wnM (M : Nat) (ws : List Nat) : Nat := (ws.getD 15 0 + sg0 M (ws.getD 14 0) + ws.getD 6 0 + sg1 M (ws.getD 1 0)) &&& M
/-- the words, the last one first -/
def sched (M : Nat) : Nat → List Nat → List Nat
  | 0, ws => ws
  | t + 1, ws => fN (wnM M ws) fun v => sched M t (v :: ws)
/-- the rounds -/
def rnds (M O : Nat) : List Nat → List Nat → Nat → Nat → Nat → Nat → Nat → Nat → Nat → Nat → List Nat
  | k :: ks, w :: ws, a, b, c, d, e, f, g, h => fN (h + bs1 M e + chM M e f g + k * O + w) fun t => fN ((t + (bs0 M a + mjM a b c)) &&& M) fun a' => fN ((d + t) &&& M) fun e' => rnds M O ks ws a' a b c e' e f g
  | _, _, a, b, c, d, e, f, g, h => [a, b, c, d, e, f, g, h]
section
variable {n X Y Z : Nat} {x y z : Nat → Nat}
theorem Ln.sg0 (h : Ln n X x) : Ln n (sg0 (mk32 n) X) (fun i => RW.sg0 m32 (x i)) := ((h.rot 7 (by decide)).xor (h.rot 18 (by decide))).xor (h.shr 3 (by decide))
theorem Ln.sg1 (h : Ln n X x) : Ln n (sg1 (mk32 n) X) (fun i => RW.sg1 m32 (x i)) := ((h.rot 17 (by decide)).xor (h.rot 19 (by decide))).xor (h.shr 10 (by decide))
theorem Ln.bs0 (h : Ln n X x) : Ln n (bs0 (mk32 n) X) (fun i => RW.bs0 m32 (x i)) := ((h.rot 2 (by decide)).xor (h.rot 13 (by decide))).xor (h.rot 22 (by decide))
theorem Ln.bs1 (h : Ln n X x) : Ln n (bs1 (mk32 n) X) (fun i => RW.bs1 m32 (x i)) := ((h.rot 6 (by decide)).xor (h.rot 11 (by decide))).xor (h.rot 25 (by decide))
theorem Ln.ch (h : Ln n X x) (g : Ln n Y y) (k : Ln n Z z) : Ln n (chM (mk32 n) X Y Z) (fun i => chM m32 (x i) (y i) (z i)) := (h.and g).xor (((Ln.ones n).xor h).and k)
theorem Ln.mj (h : Ln n X x) (g : Ln n Y y) (k : Ln n Z z) : Ln n (mjM X Y Z) (fun i => mjM (x i) (y i) (z i)) := ((h.and g).xor (h.and k)).xor (g.and k)
theorem Ln.const (n c : Nat) (hc : c < 4294967296) : Ln n (c * pk n (fun _ => 1)) (fun _ => c * 1) := ⟨pk_mul c n _, fun _ => show c * 1 < 4294967296 by omega⟩
/-- lists of words -/
def LL (n : Nat) (Ws : List Nat) (ws : Nat → List Nat) : Prop := (∀ i, (ws i).length = Ws.length) ∧ ∀ j, j < Ws.length → Ln n (Ws.getD j 0) (fun i => (ws i).getD j 0)
theorem LL.cons {Ws : List Nat} {ws : Nat → List Nat} (h : LL n Ws ws) (g : Ln n X x) : LL n (X :: Ws) (fun i => x i :: ws i) :=
  ⟨fun i => by simp [h.1 i], fun j hj => by
    cases j with
    | zero => exact g
    | succ j => exact h.2 j (by simpa using hj)⟩
theorem LL.nil (n : Nat) : LL n [] (fun _ => []) := ⟨fun _ => rfl, fun j hj => absurd hj (Nat.not_lt_zero j)⟩
theorem LL.sched : ∀ (t : Nat) {Ws : List Nat} {ws : Nat → List Nat}, 16 ≤ Ws.length → LL n Ws ws → LL n (sched (mk32 n) t Ws) (fun i => RW.sched m32 t (ws i))
  | 0, _, _, _, h => h
  | t + 1, Ws, ws, hl, h => by
    have h1 := ((((h.2 15 (by omega)).b.add (h.2 14 (by omega)).sg0.b).add (h.2 6 (by omega)).b).add (h.2 1 (by omega)).sg1.b).cut (by decide)
    have h2 := LL.sched t (by simp; omega) (h.cons h1)
    unfold RW.sched
    simp only [fN_eq]
    exact h2
theorem LL.rev {Ws : List Nat} {ws : Nat → List Nat} (h : LL n Ws ws) : LL n Ws.reverse (fun i => (ws i).reverse) := by
  refine ⟨fun i => by simp [h.1 i], fun j hj => ?_⟩
  rw [List.length_reverse] at hj
  have h2 := h.2 (Ws.length - 1 - j) (by omega)
  have e : ∀ (l : List Nat), l.length = Ws.length → l.reverse.getD j 0 = l.getD (Ws.length - 1 - j) 0 := fun l hl => by
    rw [List.getD_eq_getElem?_getD, List.getD_eq_getElem?_getD, List.getElem?_reverse (by omega), hl]
  rw [e Ws rfl, show (fun i => (ws i).reverse.getD j 0) = fun i => (ws i).getD (Ws.length - 1 - j) 0 from funext fun i => e _ (h.1 i)]
  exact h2
end
theorem LL.rnds {n : Nat} : ∀ (ks : List Nat) (_ : ∀ k ∈ ks, k < 4294967296) {Ws : List Nat} {ws : Nat → List Nat} {A B C D E F G H : Nat} {a b c d e f g h : Nat → Nat}, LL n Ws ws → Ln n A a → Ln n B b → Ln n C c → Ln n D d → Ln n E e → Ln n F f → Ln n G g → Ln n H h →
    LL n (rnds (mk32 n) (pk n (fun _ => 1)) ks Ws A B C D E F G H) (fun i => RW.rnds m32 1 ks (ws i) (a i) (b i) (c i) (d i) (e i) (f i) (g i) (h i))
  | [], _, Ws, ws, _, _, _, _, _, _, _, _, _, _, _, _, _, _, _, _, _, hA, hB, hC, hD, hE, hF, hG, hH => by
    unfold RW.rnds
    exact ((((((((LL.nil n).cons hH).cons hG).cons hF).cons hE).cons hD).cons hC).cons hB).cons hA
  | k :: ks, hk, [], ws, _, _, _, _, _, _, _, _, _, _, _, _, _, _, _, _, hw, hA, hB, hC, hD, hE, hF, hG, hH => by
    have e : ∀ i, ws i = [] := fun i => List.eq_nil_of_length_eq_zero (by simpa using hw.1 i)
    simp only [e]
    unfold RW.rnds
    exact ((((((((LL.nil n).cons hH).cons hG).cons hF).cons hE).cons hD).cons hC).cons hB).cons hA
  | k :: ks, hk, W :: Ws, ws, A, B, C, D, E, F, G, H, a, b, c, d, e, f, g, h, hw, hA, hB, hC, hD, hE, hF, hG, hH => by
    obtain ⟨w0, hw0⟩ : ∃ w0 : Nat → Nat, ∀ i, w0 i = (ws i).getD 0 0 := ⟨_, fun _ => rfl⟩
    obtain ⟨wt, hwt⟩ : ∃ wt : Nat → List Nat, ∀ i, wt i = (ws i).tail := ⟨_, fun _ => rfl⟩
    have hws : ∀ i, ws i = w0 i :: wt i := fun i => by
      have := hw.1 i
      rw [hw0, hwt]
      cases hq : ws i with
      | nil => rw [hq] at this; cases this
      | cons q l => rfl
    have hW0 : Ln n W w0 := by
      have := hw.2 0 (by simp)
      rw [show (fun i => (ws i).getD 0 0) = w0 from funext fun i => (hw0 i).symm] at this
      exact this
    have hWt : LL n Ws wt := ⟨fun i => by have := hw.1 i; rw [hws] at this; simpa using this, fun j hj => by
      have := hw.2 (j + 1) (by simpa using hj)
      rw [show (fun i => (ws i).getD (j + 1) 0) = fun i => (wt i).getD j 0 from funext fun i => by rw [hws]; rfl] at this
      exact this⟩
    have hT := (((hH.b.add hE.bs1.b).add (hE.ch hF hG).b).add (Ln.const n k (hk k (by simp))).b).add hW0.b
    have hN := (hT.add (hA.bs0.b.add (hA.mj hB hC).b)).cut (by decide)
    have hM := (hD.b.add hT).cut (by decide)
    have := LL.rnds ks (fun q hq => hk q (by simp [hq])) hWt hN hA hB hC hM hE hF hG
    simp only [hws]
    unfold RW.rnds
    simp only [fN_eq]
    exact this
end Go.Proofs.YtnlphbfjeekooaaGreatDoor.RW

/-
  SHA-256 of a string of one block, by numbers: that it is the digest's own; two digests that agree have the same first two words: no program in sight.
-/
namespace Go.Proofs.YtnlphbfjeekooaaGreatDoor.RW
open Go Go.RowKit
theorem xorN (a b : Nat) (ha : a < 4294967296) (hb : b < 4294967296) : bits .xor .u32 (a : Int) (b : Int) = ((a ^^^ b : Nat) : Int) := u32_xor_nat a b ha hb
theorem rotM_lt (M X k : Nat) (h : M < 4294967296) : rotM M X k < 4294967296 := Nat.lt_of_le_of_lt Nat.and_le_right h
theorem rotr_nat (x n : Nat) (hx : x < 4294967296) (h1 : 1 ≤ n) (h2 : n ≤ 31) : rotr (x : Int) n = ((rotM m32 x n : Nat) : Int) := by
  have e1 : (x : Int) / 2 ^ n = ((x / 2 ^ n : Nat) : Int) := by simp
  have e2 : (x : Int) * 2 ^ (32 - n) % 4294967296 = ((x * 2 ^ (32 - n) % 4294967296 : Nat) : Int) := by simp
  have l1 : x / 2 ^ n < 4294967296 := Nat.lt_of_le_of_lt (Nat.div_le_self _ _) hx
  unfold rotr
  rw [e1, e2, u32_or_nat _ _ l1 (Nat.mod_lt _ (by decide))]
  congr 1
  unfold rotM
  apply Nat.eq_of_testBit_eq
  intro j
  rw [Nat.testBit_or, Nat.testBit_and, Nat.testBit_shiftRight, mask_bit, Nat.testBit_div_two_pow, show (4294967296 : Nat) = 2 ^ 32 from rfl, Nat.testBit_mod_two_pow, Nat.testBit_mul_two_pow,
    show 4294967297 * x = 2 ^ 32 * x + x by omega, Nat.testBit_two_pow_mul_add _ (by simpa using hx)]
  have hz : ∀ i, 32 ≤ i → x.testBit i = false := fun i hi => Nat.testBit_lt_two_pow (Nat.lt_of_lt_of_le hx (by rw [show (4294967296 : Nat) = 2 ^ 32 from rfl]; exact Nat.pow_le_pow_right (by decide) hi))
  by_cases hj : j < 32
  · rw [decide_eq_true hj, Bool.true_and, Bool.and_true]
    by_cases hn : n + j < 32
    · rw [if_pos hn, decide_eq_false (show ¬ (32 - n ≤ j) by omega), Bool.false_and, Bool.or_false, Nat.add_comm]
    · rw [if_neg hn, decide_eq_true (show 32 - n ≤ j by omega), Bool.true_and, hz (j + n) (by omega), Bool.false_or, show n + j - 32 = j - (32 - n) by omega]
  · rw [decide_eq_false hj, Bool.false_and, Bool.and_false, Bool.or_false]
    exact hz _ (by omega)
theorem shr_nat (x k : Nat) (hx : x < 4294967296) : shrM m32 x k = x / 2 ^ k := by
  unfold shrM m32
  rw [show (4294967295 : Nat) = 2 ^ 32 - 1 from rfl, Nat.and_two_pow_sub_one_eq_mod, Nat.shiftRight_eq_div_pow]
  exact Nat.mod_eq_of_lt (Nat.lt_of_le_of_lt (Nat.div_le_self _ _) hx)
theorem cut_nat (x : Nat) : x &&& m32 = x % 4294967296 := by
  unfold m32
  rw [show (4294967295 : Nat) = 2 ^ 32 - 1 from rfl, Nat.and_two_pow_sub_one_eq_mod]
theorem mix2 (x a b : Nat) (hx : x < 4294967296) (ha : 1 ≤ a ∧ a ≤ 31) (hb : 1 ≤ b ∧ b ≤ 31) : mixF (x : Int) [a, b] = ((rotM m32 x a ^^^ rotM m32 x b : Nat) : Int) := by
  show bits .xor .u32 (bits .xor .u32 0 (rotr x a)) (rotr x b) = _
  rw [rotr_nat x a hx ha.1 ha.2, rotr_nat x b hx hb.1 hb.2, show (0 : Int) = ((0 : Nat) : Int) from rfl, xorN _ _ (by decide) (rotM_lt _ _ _ (by decide)), Nat.zero_xor, xorN _ _ (rotM_lt _ _ _ (by decide)) (rotM_lt _ _ _ (by decide))]
theorem mix3 (x a b c : Nat) (hx : x < 4294967296) (ha : 1 ≤ a ∧ a ≤ 31) (hb : 1 ≤ b ∧ b ≤ 31) (hc : 1 ≤ c ∧ c ≤ 31) : mixF (x : Int) [a, b, c] = ((rotM m32 x a ^^^ rotM m32 x b ^^^ rotM m32 x c : Nat) : Int) := by
  show bits .xor .u32 (mixF (x : Int) [a, b]) (rotr x c) = _
  rw [mix2 x a b hx ha hb, rotr_nat x c hx hc.1 hc.2, xorN _ _ (Nat.xor_lt_two_pow (n := 32) (rotM_lt _ _ _ (by decide)) (rotM_lt _ _ _ (by decide))) (rotM_lt _ _ _ (by decide))]
theorem sg0_nat (x : Nat) (hx : x < 4294967296) : bits .xor .u32 (mixF (x : Int) [7, 18]) ((x : Int) / 8) = ((sg0 m32 x : Nat) : Int) := by
  rw [mix2 x 7 18 hx (by decide) (by decide), show (x : Int) / 8 = ((x / 8 : Nat) : Int) by simp, xorN _ _ (Nat.xor_lt_two_pow (n := 32) (rotM_lt _ _ _ (by decide)) (rotM_lt _ _ _ (by decide))) (by omega)]
  unfold sg0
  rw [shr_nat x 3 hx]
theorem sg1_nat (x : Nat) (hx : x < 4294967296) : bits .xor .u32 (mixF (x : Int) [17, 19]) ((x : Int) / 1024) = ((sg1 m32 x : Nat) : Int) := by
  rw [mix2 x 17 19 hx (by decide) (by decide), show (x : Int) / 1024 = ((x / 1024 : Nat) : Int) by simp, xorN _ _ (Nat.xor_lt_two_pow (n := 32) (rotM_lt _ _ _ (by decide)) (rotM_lt _ _ _ (by decide))) (by omega)]
  unfold sg1
  rw [shr_nat x 10 hx]
/-- numbers that are words -/
def Wd (W : Nat → Int) (w : Nat → Nat) : Prop := ∀ i, W i = ((w i : Nat) : Int) ∧ w i < 4294967296
theorem wst_nat {W : Nat → Int} {w : Nat → Nat} (h : Wd W w) (i : Nat) : wst W i = (((w (i - 16) + sg0 m32 (w (i - 15)) + w (i - 7) + sg1 m32 (w (i - 2))) &&& m32 : Nat) : Int) := by
  unfold wst
  rw [(h (i - 16)).1, (h (i - 15)).1, (h (i - 7)).1, (h (i - 2)).1, sg0_nat _ (h _).2, sg1_nat _ (h _).2, cut_nat]
  omega
theorem and_lt32 (a b : Nat) (hb : b < 4294967296) : a &&& b < 4294967296 := Nat.and_lt_two_pow (n := 32) _ hb
theorem tOf_nat {V : Nat → Int} {v : Nat → Nat} (h : Wd V v) (k x : Nat) : tOf V (k : Int) (x : Int) = ((v 7 + bs1 m32 (v 4) + chM m32 (v 4) (v 5) (v 6) + k * 1 + x : Nat) : Int) := by
  have hm : IntKind.u32.max = ((m32 : Nat) : Int) := by rfl
  unfold tOf
  rw [(h 7).1, (h 4).1, (h 5).1, (h 6).1, mix3 _ 6 11 25 (h 4).2 (by decide) (by decide) (by decide), hm, u32_and_nat _ _ (h 4).2 (h 5).2, xorN _ _ (by decide) (h 4).2, u32_and_nat _ _ (Nat.xor_lt_two_pow (n := 32) (by decide) (h 4).2) (h 6).2, xorN _ _ (and_lt32 _ _ (h 5).2) (and_lt32 _ _ (h 6).2)]
  unfold bs1 chM
  omega
theorem uOf_nat {V : Nat → Int} {v : Nat → Nat} (h : Wd V v) : uOf V = ((bs0 m32 (v 0) + mjM (v 0) (v 1) (v 2) : Nat) : Int) := by
  unfold uOf
  rw [(h 0).1, (h 1).1, (h 2).1, mix3 _ 2 13 22 (h 0).2 (by decide) (by decide) (by decide), u32_and_nat _ _ (h 0).2 (h 1).2, u32_and_nat _ _ (h 0).2 (h 2).2, u32_and_nat _ _ (h 1).2 (h 2).2, xorN _ _ (and_lt32 _ _ (h 1).2) (and_lt32 _ _ (h 2).2), xorN _ _ (Nat.xor_lt_two_pow (n := 32) (and_lt32 _ _ (h 1).2) (and_lt32 _ _ (h 2).2)) (and_lt32 _ _ (h 2).2)]
  unfold bs0 mjM
  omega
/-- a step's numbers -/
def stN (v : Nat → Nat) (k x : Nat) : Nat → Nat
  | 0 => ((v 7 + bs1 m32 (v 4) + chM m32 (v 4) (v 5) (v 6) + k * 1 + x) + (bs0 m32 (v 0) + mjM (v 0) (v 1) (v 2))) &&& m32
  | 1 => v 0
  | 2 => v 1
  | 3 => v 2
  | 4 => (v 3 + (v 7 + bs1 m32 (v 4) + chM m32 (v 4) (v 5) (v 6) + k * 1 + x)) &&& m32
  | 5 => v 4
  | 6 => v 5
  | _ => v 6
theorem vstep_nat {V : Nat → Int} {v : Nat → Nat} (h : Wd V v) (k x : Nat) : Wd (vstep V (k : Int) (x : Int)) (stN v k x) := by
  intro i
  match i with
  | 0 =>
    refine ⟨?_, and_m32 _⟩
    show (tOf V k x + uOf V) % 4294967296 = _
    rw [tOf_nat h, uOf_nat h]
    show _ = ((((v 7 + bs1 m32 (v 4) + chM m32 (v 4) (v 5) (v 6) + k * 1 + x) + (bs0 m32 (v 0) + mjM (v 0) (v 1) (v 2))) &&& m32 : Nat) : Int)
    rw [cut_nat]
    omega
  | 1 => exact h 0
  | 2 => exact h 1
  | 3 => exact h 2
  | 4 =>
    refine ⟨?_, and_m32 _⟩
    show (V 3 + tOf V k x) % 4294967296 = _
    rw [tOf_nat h, (h 3).1]
    show _ = (((v 3 + (v 7 + bs1 m32 (v 4) + chM m32 (v 4) (v 5) (v 6) + k * 1 + x)) &&& m32 : Nat) : Int)
    rw [cut_nat]
    omega
  | 5 => exact h 4
  | 6 => exact h 5
  | i + 7 => exact h 6
/-- the constants, as numbers -/
def kn : List Nat := k0.map Int.toNat
theorem kn_len : kn.length = 64 := by decide +kernel
theorem kn_get (i : Nat) (hi : i < 64) : k0F i = ((kn.getD i 0 : Nat) : Int) := by
  have : ∀ i, i < 64 → k0F i = ((kn.getD i 0 : Nat) : Int) := by decide +kernel
  exact this i hi
theorem kn_lt : ∀ k ∈ kn, k < 4294967296 := by decide +kernel
theorem drop_get {l : List Nat} {i : Nat} (h : i < l.length) : l.drop i = l.getD i 0 :: l.drop (i + 1) := by
  rw [List.getD_eq_getElem?_getD, List.getElem?_eq_getElem h]
  exact List.drop_eq_getElem_cons h
/-- the rounds are the computation's -/
theorem rnds_comp (H : Nat → Int) (W : Nat → Int) (wn : List Nat) (hwl : wn.length = 64) (hW : ∀ i, i < 64 → W i = ((wn.getD i 0 : Nat) : Int)) : ∀ (t i : Nat) (v : Nat → Nat), i + t = 64 → Wd (comp H k0F W i) v →
    ∃ v', Wd (comp H k0F W 64) v' ∧ rnds m32 1 (kn.drop i) (wn.drop i) (v 0) (v 1) (v 2) (v 3) (v 4) (v 5) (v 6) (v 7) = [v' 0, v' 1, v' 2, v' 3, v' 4, v' 5, v' 6, v' 7]
  | 0, i, v, hi, h => by
    obtain rfl : i = 64 := by omega
    refine ⟨v, h, ?_⟩
    rw [List.drop_of_length_le (by rw [kn_len]; decide), List.drop_of_length_le (by rw [hwl]; decide)]
    rfl
  | t + 1, i, v, hi, h => by
    have h2 : Wd (comp H k0F W (i + 1)) (stN v (kn.getD i 0) (wn.getD i 0)) := by
      have := vstep_nat h (kn.getD i 0) (wn.getD i 0)
      rw [← kn_get i (by omega), ← hW i (by omega)] at this
      exact this
    obtain ⟨v', h3, h4⟩ := rnds_comp H W wn hwl hW t (i + 1) _ (by omega) h2
    refine ⟨v', h3, ?_⟩
    rw [drop_get (by rw [kn_len]; omega : i < kn.length), drop_get (by rw [hwl]; omega : i < wn.length)]
    unfold rnds
    simp only [fN_eq]
    exact h4
/-- the first i words, the last one first -/
def wr (b : Nat → Int) (i : Nat) : List Nat := ((wl b i).map Int.toNat).reverse
theorem wr_len (b : Nat → Int) (i : Nat) : (wr b i).length = i := by unfold wr; rw [List.length_reverse, List.length_map, wl_length]
theorem wr_get (b : Nat → Int) (i j : Nat) (h : j < i) : (wr b i).getD j 0 = (wf b (i - 1 - j)).toNat := by
  unfold wr
  rw [List.getD_eq_getElem?_getD, List.getElem?_reverse (by rw [List.length_map, wl_length]; exact h), List.length_map, wl_length, List.getElem?_map, ← wl_get b i (i - 1 - j) (by omega), List.getD_eq_getElem?_getD]
  rw [List.getElem?_eq_getElem (by rw [wl_length]; omega)]
  rfl
theorem orN (a b : Nat) (ha : a < 4294967296) (hb : b < 4294967296) : bits .or .u32 (a : Int) (b : Int) = ((a ||| b : Nat) : Int) := u32_or_nat a b ha hb
def w16N (b : Nat → Nat) (i : Nat) : Nat := (b (4 * i) * 16777216 ||| b (4 * i + 1) * 65536) ||| b (4 * i + 2) * 256 ||| b (4 * i + 3)
theorem w16_nat {b : Nat → Int} {c : Nat → Nat} (h : ∀ i, b i = ((c i : Nat) : Int) ∧ c i < 256) (i : Nat) : w16 b i = ((w16N c i : Nat) : Int) ∧ w16N c i < 4294967296 := by
  have l0 := (h (4 * i)).2
  have l1 := (h (4 * i + 1)).2
  have l2 := (h (4 * i + 2)).2
  have l3 := (h (4 * i + 3)).2
  have o1 : b (4 * i) * 16777216 = ((c (4 * i) * 16777216 : Nat) : Int) := by rw [(h _).1]; simp
  have o2 : b (4 * i + 1) * 65536 = ((c (4 * i + 1) * 65536 : Nat) : Int) := by rw [(h _).1]; simp
  have o3 : b (4 * i + 2) * 256 = ((c (4 * i + 2) * 256 : Nat) : Int) := by rw [(h _).1]; simp
  have q1 := Nat.or_lt_two_pow (n := 32) (show c (4 * i) * 16777216 < 4294967296 by omega) (show c (4 * i + 1) * 65536 < 4294967296 by omega)
  have q2 := Nat.or_lt_two_pow (n := 32) q1 (show c (4 * i + 2) * 256 < 4294967296 by omega)
  have q3 := Nat.or_lt_two_pow (n := 32) q2 (show c (4 * i + 3) < 4294967296 by omega)
  unfold w16
  rw [o1, o2, o3, (h (4 * i + 3)).1, orN _ _ (by omega) (by omega), orN _ _ q1 (by omega), orN _ _ q2 (by omega)]
  exact ⟨rfl, q3⟩
theorem wf_range {b : Nat → Int} (hb : ∀ i, 0 ≤ b i ∧ b i ≤ 255) (i : Nat) : 0 ≤ wf b i ∧ wf b i < 4294967296 := by
  rw [wf_eq]
  by_cases h : i < 16
  · rw [if_pos h]
    obtain ⟨h1, h2⟩ := w16_nat (c := fun i => (b i).toNat) (fun i => by have := hb i; show b i = (((b i).toNat : Nat) : Int) ∧ (b i).toNat < 256; constructor <;> omega) i
    rw [h1]
    omega
  · rw [if_neg h]
    unfold wst
    omega
theorem wf_wd {b : Nat → Int} (hb : ∀ i, 0 ≤ b i ∧ b i ≤ 255) : Wd (wf b) (fun i => (wf b i).toNat) := fun i => by have := wf_range hb i; show wf b i = (((wf b i).toNat : Nat) : Int) ∧ (wf b i).toNat < 4294967296; constructor <;> omega
theorem sched_wr {b : Nat → Int} (hb : ∀ i, 0 ≤ b i ∧ b i ≤ 255) : ∀ (t i : Nat), 16 ≤ i → sched m32 t (wr b i) = wr b (i + t)
  | 0, _, _ => rfl
  | t + 1, i, hi => by
    have hw : wnM m32 (wr b i) = (wf b i).toNat := by
      have h := wst_nat (wf_wd hb) i
      unfold wnM
      rw [wr_get b i 15 (by omega), wr_get b i 14 (by omega), wr_get b i 6 (by omega), wr_get b i 1 (by omega), show i - 1 - 15 = i - 16 by omega, show i - 1 - 14 = i - 15 by omega, show i - 1 - 6 = i - 7 by omega, show i - 1 - 1 = i - 2 by omega, wf_eq b i, if_neg (by omega), h]
      rfl
    have hs : (wf b i).toNat :: wr b i = wr b (i + 1) := by
      have h2 := wl_get b (i + 1) i (by omega)
      have h3 : wl b (i + 1) = wl b i ++ [wf b i] := by
        rw [wl]
        rw [wl, List.getD_eq_getElem?_getD, List.getElem?_append_right (by rw [wl_length]; omega), wl_length, Nat.sub_self] at h2
        simp only [List.getElem?_cons_zero, Option.getD_some] at h2
        rw [h2]
      unfold wr
      rw [h3, List.map_append, List.reverse_append]
      rfl
    unfold sched
    rw [fN_eq, hw, hs, sched_wr hb t (i + 1) (by omega), show i + 1 + t = i + (t + 1) by omega]
/-- the state behind the rounds, from the block's sixteen words (the last one first) -/
def hsN (M O : Nat) (ws : List Nat) : List Nat := rnds M O kn (sched M 48 ws).reverse (1779033703 * O) (3144134277 * O) (1013904242 * O) (2773480762 * O) (1359893119 * O) (2600822924 * O) (528734635 * O) (1541459225 * O)
theorem hsN_comp {b : Nat → Int} (hb : ∀ i, 0 ≤ b i ∧ b i ≤ 255) : ∃ v', Wd (comp sh0 k0F (wf b) 64) v' ∧ hsN m32 1 (wr b 16) = [v' 0, v' 1, v' 2, v' 3, v' 4, v' 5, v' 6, v' 7] := by
  unfold hsN
  rw [sched_wr hb 48 16 (by decide)]
  have hl : (wr b 64).reverse.length = 64 := by rw [List.length_reverse, wr_len]
  have hg : ∀ i, i < 64 → wf b i = (((wr b 64).reverse.getD i 0 : Nat) : Int) := fun i hi => by
    have := wf_range hb i
    unfold wr
    rw [List.reverse_reverse, List.getD_eq_getElem?_getD, List.getElem?_map, ← wl_get b 64 i hi, List.getD_eq_getElem?_getD, List.getElem?_eq_getElem (by rw [wl_length]; exact hi)]
    rw [← wl_get b 64 i hi, List.getD_eq_getElem?_getD, List.getElem?_eq_getElem (by rw [wl_length]; exact hi)] at this
    simp only [Option.map_some, Option.getD_some] at this ⊢
    omega
  have h0 : Wd (comp sh0 k0F (wf b) 0) (fun i => (sh0 i).toNat) := fun i => by
    have : 0 ≤ sh0 i ∧ sh0 i < 4294967296 := by
      unfold sh0
      split <;> decide
    show sh0 i = (((sh0 i).toNat : Nat) : Int) ∧ (sh0 i).toNat < 4294967296
    constructor <;> omega
  have := rnds_comp sh0 (wf b) (wr b 64).reverse hl hg 64 0 _ rfl h0
  exact this
theorem dbyte_inj {H H' : Nat → Int} (j : Nat) (h : dbyte H j = dbyte H' j) : H (j / 4) / 2 ^ (24 - 8 * (j % 4)) % 256 = H' (j / 4) / 2 ^ (24 - 8 * (j % 4)) % 256 := by
  have h1 := congrArg (fun u : UInt8 => ((u.toNat : Nat) : Int)) h
  unfold dbyte at h1
  simp only [RW.toNat_ofNat_byte] at h1
  exact h1
theorem dig_inj {H H' : Nat → Int} (hH : ∀ i, i < 8 → 0 ≤ H i ∧ H i < 4294967296) (hH' : ∀ i, i < 8 → 0 ≤ H' i ∧ H' i < 4294967296) (h : dig H = dig H') : ∀ i, i < 8 → H i = H' i := by
  have hb : ∀ j, j < 32 → dbyte H j = dbyte H' j := fun j hj => by
    have := congrArg (fun l => l[j]?) h
    unfold dig at this
    simpa [hj] using this
  intro i hi
  have h0 := dbyte_inj (4 * i) (hb (4 * i) (by omega))
  have h1 := dbyte_inj (4 * i + 1) (hb (4 * i + 1) (by omega))
  have h2 := dbyte_inj (4 * i + 2) (hb (4 * i + 2) (by omega))
  have h3 := dbyte_inj (4 * i + 3) (hb (4 * i + 3) (by omega))
  rw [show 4 * i / 4 = i by omega, show 4 * i % 4 = 0 by omega] at h0
  rw [show (4 * i + 1) / 4 = i by omega, show (4 * i + 1) % 4 = 1 by omega] at h1
  rw [show (4 * i + 2) / 4 = i by omega, show (4 * i + 2) % 4 = 2 by omega] at h2
  rw [show (4 * i + 3) / 4 = i by omega, show (4 * i + 3) % 4 = 3 by omega] at h3
  have a1 := hH i hi
  have a2 := hH' i hi
  simp only [Nat.mul_zero, Nat.mul_one, Nat.reduceMul, Nat.reduceSub, Int.reducePow, Nat.sub_zero, Nat.sub_self, Int.pow_zero, Int.ediv_one] at h0 h1 h2 h3
  omega
/-- the first word of a digest, from the block's words -/
def keyM (M O : Nat) (ws : List Nat) : Nat := (1779033703 * O + (hsN M O ws).getD 0 0) &&& M
/-- the block's words of a string of one block, the last one first -/
def wsOf (l : List UInt8) : List Nat := wr (blkf (padL l) 0) 16
theorem sha_one {l : List UInt8} (h : (padL l).length / 64 = 1) : sha k0F l = dig (hnew sh0 k0F (wf (blkf (padL l) 0))) := by
  unfold sha
  rw [h]
  rfl
theorem key_hnew (l : List UInt8) : ((keyM m32 1 (wsOf l) : Nat) : Int) = hnew sh0 k0F (wf (blkf (padL l) 0)) 0 := by
  obtain ⟨v, hv, hs⟩ := hsN_comp (b := blkf (padL l) 0) (fun i => blkf_range _ _ _)
  unfold keyM wsOf hnew
  rw [hs, (hv 0).1, show sh0 0 = 1779033703 from rfl, cut_nat]
  simp only [List.getD_cons_zero]
  omega
theorem sha_key {l l' : List UInt8} (h : (padL l).length / 64 = 1) (h' : (padL l').length / 64 = 1) (he : sha k0F l = sha k0F l') : keyM m32 1 (wsOf l) = keyM m32 1 (wsOf l') := by
  rw [sha_one h, sha_one h'] at he
  have hi := dig_inj (fun i _ => hnew_range _ _ _ _) (fun i _ => hnew_range _ _ _ _) he 0 (by decide)
  have h1 := key_hnew l
  have h2 := key_hnew l'
  rw [hi, ← h2] at h1
  exact_mod_cast h1
/-- the words, from the block's bytes -/
theorem wf_bytes (l : List UInt8) (i : Nat) (hi : i < 16) : (wf (blkf (padL l) 0) i).toNat = w16N (fun k => ((padL l).getD k 0).toNat) i := by
  have h := (w16_nat (b := blkf (padL l) 0) (c := fun k => ((padL l).getD k 0).toNat) (fun k => by
    unfold blkf
    rw [Nat.mul_zero, Nat.zero_add]
    exact ⟨rfl, UInt8.toNat_lt _⟩) i).1
  rw [wf_eq, if_pos hi, h, Int.toNat_natCast]
theorem wsOf_get (l : List UInt8) (j : Nat) (hj : j < 16) : (wsOf l)[j]? = some (w16N (fun k => ((padL l).getD k 0).toNat) (15 - j)) := by
  have h1 := wr_get (blkf (padL l) 0) 16 j hj
  have hlt : j < (wr (blkf (padL l) 0) 16).length := by rw [wr_len]; exact hj
  unfold wsOf
  rw [List.getD_eq_getElem?_getD] at h1
  rw [List.getElem?_eq_getElem hlt] at h1 ⊢
  rw [Option.getD_some] at h1
  rw [h1, show 16 - 1 - j = 15 - j by omega, wf_bytes l _ (by omega)]
theorem wsOf_len (l : List UInt8) : (wsOf l).length = 16 := wr_len _ _
theorem wsOf_eq (l : List UInt8) (c : Nat → Nat) (hc : ∀ k, ((padL l).getD k 0).toNat = c k) : wsOf l = [w16N c 15, w16N c 14, w16N c 13, w16N c 12, w16N c 11, w16N c 10, w16N c 9, w16N c 8, w16N c 7, w16N c 6, w16N c 5, w16N c 4, w16N c 3, w16N c 2, w16N c 1, w16N c 0] := by
  have hc' : (fun k => ((padL l).getD k 0).toNat) = c := funext hc
  apply List.ext_getElem?
  intro j
  by_cases hj : j < 16
  · rw [wsOf_get l j hj, hc']
    rcases j with _ | _ | _ | _ | _ | _ | _ | _ | _ | _ | _ | _ | _ | _ | _ | _ | j
    all_goals first | rfl | omega
  · rw [List.getElem?_eq_none (by rw [wsOf_len]; omega), List.getElem?_eq_none (by simp; omega)]
end Go.Proofs.YtnlphbfjeekooaaGreatDoor.RW

/-
  The digests of the plays that the laws add are different for different numbers: reckoned, of all at once: no program in sight.
-/
namespace Go.Proofs.YtnlphbfjeekooaaGreatDoor.RW
open Go Go.RowKit
/-- the numbers of play n -/
def playF (n : Nat) (i : Nat) : Int := match i with
  | 0 => 1 | 1 => ((n + 1 : Nat) : Int) | 2 => 1 | 4 => (n : Int) | 5 => 1 | 6 => 1 | 7 => 1 | 13 => 30000 | _ => 0
def encP (n : Nat) : List UInt8 := encL (playF n) []
theorem encP_eq (n : Nat) : encP n = 2 :: (putI ((n + 1 : Nat) : Int) ++ (2 :: 0 :: (putI (n : Int) ++ [2, 2, 2, 0, 0, 0, 0, 0, 224, 212, 3, 0, 0, 0, 0]))) := by
  have h1 : putI 1 = [2] := by decide +kernel
  have h0 : putI 0 = [0] := by decide +kernel
  have h3 : putI 30000 = [224, 212, 3] := by decide +kernel
  have hs : putS [] = [0] := by decide +kernel
  show (putI 1 ++ (putI ((n + 1 : Nat) : Int) ++ (putI 1 ++ (putI 0 ++ (putI (n : Int) ++ (putI 1 ++ (putI 1 ++ (putI 1 ++ (putI 0 ++ (putI 0 ++ (putI 0 ++ (putI 0 ++ (putI 0 ++ (putI 30000 ++ (putI 0 ++ (putI 0 ++ (putI 0 ++ []))))))))))))))))) ++ putS [] = _
  rw [h1, h0, h3, hs]
  simp
theorem putI_two {n : Nat} (h1 : 64 ≤ n) (h2 : n < 8192) : putI (n : Int) = [UInt8.ofNat (2 * n % 128 + 128), UInt8.ofNat (2 * n / 128)] := by
  have hz : zz (n : Int) = 2 * n := by unfold zz; rw [if_neg (by omega)]; omega
  unfold putI
  rw [hz]
  show (if 2 * n < 128 then _ else UInt8.ofNat (2 * n % 128 + 128) :: (if 2 * n / 128 < 128 then [UInt8.ofNat (2 * n / 128)] else _)) = _
  rw [if_neg (by omega), if_pos (by omega)]
theorem pad_two {n : Nat} (h1 : 64 ≤ n) (h2 : n < 8191) : padL (encP n) = [2, UInt8.ofNat (2 * (n + 1) % 128 + 128), UInt8.ofNat (2 * (n + 1) / 128), 2, 0, UInt8.ofNat (2 * n % 128 + 128), UInt8.ofNat (2 * n / 128), 2, 2, 2, 0, 0, 0, 0, 0, 224, 212, 3, 0, 0, 0, 0, 128] ++ (List.replicate 40 0 ++ [176]) := by
  rw [encP_eq, putI_two (n := n + 1) (by omega) (by omega), putI_two h1 (by omega)]
  have hz : padZ 22 = 33 := by decide
  have ht : padT 22 8 = List.replicate 7 0 ++ [176] := by decide +kernel
  unfold padL padM
  simp only [List.cons_append, List.nil_append, List.length_cons, List.length_nil, Nat.zero_add, Nat.reduceAdd, hz, ht]
  rfl
theorem pad_one {n : Nat} (h2 : n < 8191) : (padL (encP n)).length / 64 = 1 := by
  by_cases h1 : 64 ≤ n
  · rw [pad_two h1 h2]; simp
  · have : ∀ n, n < 64 → (padL (encP n)).length / 64 = 1 := by decide +kernel
    exact this n (by omega)
/-- the bytes of a word -/
theorem byte_nat (x : Nat) (h : x < 256) : (UInt8.ofNat x).toNat = x := by rw [UInt8.toNat_ofNat', Nat.mod_eq_of_lt (by omega)]
def w0P (n : Nat) : Nat := 2 * 16777216 ||| (2 * (n + 1) % 128 + 128) * 65536 ||| (2 * (n + 1) / 128) * 256 ||| 2
def w1P (n : Nat) : Nat := 0 * 16777216 ||| (2 * n % 128 + 128) * 65536 ||| (2 * n / 128) * 256 ||| 2
/-- the block's bytes, as numbers -/
def cbP (a b c d : Nat) : Nat → Nat
  | 0 => 2 | 1 => a | 2 => b | 3 => 2 | 5 => c | 6 => d | 7 => 2 | 8 => 2 | 9 => 2 | 15 => 224 | 16 => 212 | 17 => 3 | 22 => 128 | 63 => 176 | _ => 0
theorem cbP_big (a b c d k : Nat) (h : 64 ≤ k) : cbP a b c d k = 0 := by
  unfold cbP
  split <;> first | rfl | omega
theorem cbP_eq {n : Nat} (h1 : 64 ≤ n) (h2 : n < 8191) (k : Nat) : ((padL (encP n)).getD k 0).toNat = cbP (2 * (n + 1) % 128 + 128) (2 * (n + 1) / 128) (2 * n % 128 + 128) (2 * n / 128) k := by
  have e0 := byte_nat (2 * (n + 1) % 128 + 128) (by omega)
  have e1 := byte_nat (2 * (n + 1) / 128) (by omega)
  have e2 := byte_nat (2 * n % 128 + 128) (by omega)
  have e3 := byte_nat (2 * n / 128) (by omega)
  rw [pad_two h1 h2]
  by_cases hk : k < 64
  · rcases k with _ | _ | _ | _ | _ | _ | _ | _ | _ | _ | _ | _ | _ | _ | _ | _ | _ | _ | _ | _ | _ | _ | _ | _ | _ | _ | _ | _ | _ | _ | _ | _ | _ | _ | _ | _ | _ | _ | _ | _ | _ | _ | _ | _ | _ | _ | _ | _ | _ | _ | _ | _ | _ | _ | _ | _ | _ | _ | _ | _ | _ | _ | _ | _ | k
    all_goals first | rfl | exact e0 | exact e1 | exact e2 | exact e3 | omega
  · rw [cbP_big _ _ _ _ _ (by omega), List.getD_eq_getElem?_getD, List.getElem?_eq_none (by simp; omega)]
    rfl
theorem ws_two {n : Nat} (h1 : 64 ≤ n) (h2 : n < 8191) : wsOf (encP n) = [176, 0, 0, 0, 0, 0, 0, 0, 0, 0, 32768, 3556966400, 224, 33685504, w1P n, w0P n] := by
  rw [wsOf_eq _ _ (cbP_eq h1 h2)]
  unfold w0P w1P
  generalize 2 * (n + 1) % 128 + 128 = a
  generalize 2 * (n + 1) / 128 = b
  generalize 2 * n % 128 + 128 = c
  generalize 2 * n / 128 = d
  have e6 : w16N (cbP a b c d) 6 = 0 := (by decide +kernel : (0 * 16777216 ||| 0 * 65536) ||| 0 * 256 ||| 0 = 0)
  have e7 : w16N (cbP a b c d) 7 = 0 := (by decide +kernel : (0 * 16777216 ||| 0 * 65536) ||| 0 * 256 ||| 0 = 0)
  have e8 : w16N (cbP a b c d) 8 = 0 := (by decide +kernel : (0 * 16777216 ||| 0 * 65536) ||| 0 * 256 ||| 0 = 0)
  have e9 : w16N (cbP a b c d) 9 = 0 := (by decide +kernel : (0 * 16777216 ||| 0 * 65536) ||| 0 * 256 ||| 0 = 0)
  have e10 : w16N (cbP a b c d) 10 = 0 := (by decide +kernel : (0 * 16777216 ||| 0 * 65536) ||| 0 * 256 ||| 0 = 0)
  have e11 : w16N (cbP a b c d) 11 = 0 := (by decide +kernel : (0 * 16777216 ||| 0 * 65536) ||| 0 * 256 ||| 0 = 0)
  have e12 : w16N (cbP a b c d) 12 = 0 := (by decide +kernel : (0 * 16777216 ||| 0 * 65536) ||| 0 * 256 ||| 0 = 0)
  have e13 : w16N (cbP a b c d) 13 = 0 := (by decide +kernel : (0 * 16777216 ||| 0 * 65536) ||| 0 * 256 ||| 0 = 0)
  have e14 : w16N (cbP a b c d) 14 = 0 := (by decide +kernel : (0 * 16777216 ||| 0 * 65536) ||| 0 * 256 ||| 0 = 0)
  have e15 : w16N (cbP a b c d) 15 = 176 := (by decide +kernel : (0 * 16777216 ||| 0 * 65536) ||| 0 * 256 ||| 176 = 176)
  have e5 : w16N (cbP a b c d) 5 = 32768 := (by decide +kernel : (0 * 16777216 ||| 0 * 65536) ||| 128 * 256 ||| 0 = 32768)
  have e4 : w16N (cbP a b c d) 4 = 3556966400 := (by decide +kernel : (212 * 16777216 ||| 3 * 65536) ||| 0 * 256 ||| 0 = 3556966400)
  have e3 : w16N (cbP a b c d) 3 = 224 := (by decide +kernel : (0 * 16777216 ||| 0 * 65536) ||| 0 * 256 ||| 224 = 224)
  have e2 : w16N (cbP a b c d) 2 = 33685504 := (by decide +kernel : (2 * 16777216 ||| 2 * 65536) ||| 0 * 256 ||| 0 = 33685504)
  rw [e15, e14, e13, e12, e11, e10, e9, e8, e7, e6, e5, e4, e3, e2]
  rfl
/-- many lanes, reckoned from the last one on -/
def colN (f : Nat → Nat) (n : Nat) : Nat := Nat.rec (motive := fun _ => Nat → Nat) (fun acc => acc) (fun m ih acc => fN (f m + 18446744073709551616 * acc) ih) n 0
theorem pk_app : ∀ (m k : Nat) (f : Nat → Nat), pk (m + k) f = pk m f + 18446744073709551616 ^ m * pk k (fun i => f (m + i))
  | 0, k, f => by
    rw [Nat.zero_add, Nat.pow_zero, Nat.one_mul, show (fun i => f (0 + i)) = f from funext fun i => by rw [Nat.zero_add]]
    show _ = 0 + _
    rw [Nat.zero_add]
  | m + 1, k, f => by
    rw [show m + 1 + k = (m + k) + 1 by omega, pk_succ, pk_succ, pk_app m k (fun i => f (i + 1)), Nat.mul_add, show (fun i => f (m + i + 1)) = fun i => f (m + 1 + i) from funext fun i => by rw [show m + i + 1 = m + 1 + i by omega]]
    rw [Nat.pow_succ, Nat.mul_comm (18446744073709551616 ^ m) 18446744073709551616, Nat.mul_assoc, Nat.add_assoc]
theorem colN_pk (f : Nat → Nat) (n : Nat) : colN f n = pk n f := by
  have key : ∀ n acc, (Nat.rec (motive := fun _ => Nat → Nat) (fun acc => acc) (fun m ih acc => fN (f m + 18446744073709551616 * acc) ih) n acc : Nat) = pk n f + 18446744073709551616 ^ n * acc := by
    intro n
    induction n with
    | zero => intro acc; show acc = 0 + 1 * acc; omega
    | succ n ih =>
      intro acc
      show fN (f n + 18446744073709551616 * acc) _ = _
      rw [fN_eq, ih, pk_app n 1 f, Nat.pow_succ]
      have h1 : pk 1 (fun i => f (n + i)) = f n := by
        show f (n + 0) + 18446744073709551616 * 0 = f n
        rw [Nat.mul_zero, Nat.add_zero, Nat.add_zero]
      rw [h1, Nat.mul_add, Nat.mul_assoc, Nat.add_assoc]
  have := key n 0
  rw [Nat.mul_zero, Nat.add_zero] at this
  exact this
theorem rnds_len (M O : Nat) : ∀ (ks ws : List Nat) (a b c d e f g h : Nat), (rnds M O ks ws a b c d e f g h).length = 8
  | [], ws, _, _, _, _, _, _, _, _ => by unfold rnds; rfl
  | _ :: _, [], _, _, _, _, _, _, _, _ => by unfold rnds; rfl
  | k :: ks, w :: ws, _, _, _, _, _, _, _, _ => by
    unfold rnds
    simp only [fN_eq]
    exact rnds_len M O ks ws _ _ _ _ _ _ _ _
theorem key_lanes {n : Nat} {Ws : List Nat} {ws : Nat → List Nat} (hl : 16 ≤ Ws.length) (h : LL n Ws ws) : Ln n (keyM (mk32 n) (pk n (fun _ => 1)) Ws) (fun i => keyM m32 1 (ws i)) := by
  have h1 := LL.rnds kn kn_lt (h.sched 48 hl).rev (Ln.const n 1779033703 (by decide)) (Ln.const n 3144134277 (by decide)) (Ln.const n 1013904242 (by decide)) (Ln.const n 2773480762 (by decide)) (Ln.const n 1359893119 (by decide)) (Ln.const n 2600822924 (by decide)) (Ln.const n 528734635 (by decide)) (Ln.const n 1541459225 (by decide))
  exact ((Ln.const n 1779033703 (by decide)).b.add (h1.2 0 (by rw [rnds_len]; decide)).b).cut (by decide)
/-- the first words of the plays' digests -/
def keyP (n : Nat) : Nat := keyM m32 1 (wsOf (encP n))
theorem keyP_lt (n : Nat) : keyP n < 4294967296 := and_m32 _
/-- .. of the first 64 -/
def wordP (j i : Nat) : Nat := w16N (fun k => ((padL (encP i)).getD k 0).toNat) j
def wsA : List Nat := (List.range 16).reverse.map fun j => colN (wordP j) 64
theorem w16N_lt (c : Nat → Nat) (h : ∀ i, c i < 256) (i : Nat) : w16N c i < 4294967296 := (w16_nat (b := fun i => (c i : Int)) (c := c) (fun i => ⟨rfl, h i⟩) i).2
theorem pk_congr : ∀ (n : Nat) (x y : Nat → Nat), (∀ i, i < n → x i = y i) → pk n x = pk n y
  | 0, _, _, _ => rfl
  | n + 1, x, y, h => by
    simp only [pk_succ]
    rw [h 0 (by omega), pk_congr n (fun i => x (i + 1)) (fun i => y (i + 1)) (fun i hi => h (i + 1) (by omega))]
theorem ws_get (l : List UInt8) {j : Nat} (hj : j < 16) : (wsOf l).getD j 0 = w16N (fun k => ((padL l).getD k 0).toNat) (15 - j) := by
  rw [List.getD_eq_getElem?_getD, wsOf_get l j hj, Option.getD_some]
theorem ws_lt (l : List UInt8) {j : Nat} (hj : j < 16) : (wsOf l).getD j 0 < 4294967296 := by
  rw [ws_get l hj]
  exact w16N_lt _ (fun k => UInt8.toNat_lt _) _
theorem ws_len (l : List UInt8) : (wsOf l).length = 16 := wsOf_len l
theorem getD_rev (g : Nat → Nat) (j : Nat) (hj : j < 16) : ((List.range 16).reverse.map g).getD j 0 = g (15 - j) := by
  rw [List.getD_eq_getElem?_getD, List.getElem?_map, List.getElem?_reverse (by simpa using hj), List.length_range, List.getElem?_range (by omega), Option.map_some, Option.getD_some, show 16 - 1 - j = 15 - j by omega]
theorem wsA_len : wsA.length = 16 := by unfold wsA; rw [List.length_map, List.length_reverse, List.length_range]
theorem llA : LL 64 wsA (fun i => wsOf (encP i)) := by
  refine ⟨fun i => (ws_len _).trans wsA_len.symm, fun j hj => ?_⟩
  have hj' : j < 16 := by rw [wsA_len] at hj; exact hj
  have e : wsA.getD j 0 = colN (wordP (15 - j)) 64 := getD_rev (fun j => colN (wordP j) 64) j hj'
  have e2 : (fun i => (wsOf (encP i)).getD j 0) = wordP (15 - j) := funext fun i => ws_get (encP i) hj'
  refine ⟨?_, fun i => ws_lt _ hj'⟩
  rw [e, colN_pk]
  show pk 64 _ = pk 64 (fun i => (wsOf (encP i)).getD j 0)
  rw [e2]
/-- .. of the others -/
def wsB (m : Nat) : List Nat := [176 * colN (fun _ => 1) m, 0, 0, 0, 0, 0, 0, 0, 0, 0, 32768 * colN (fun _ => 1) m, 3556966400 * colN (fun _ => 1) m, 224 * colN (fun _ => 1) m, 33685504 * colN (fun _ => 1) m, colN (fun i => w1P (64 + i)) m, colN (fun i => w0P (64 + i)) m]
theorem pk_zero : ∀ n, pk n (fun _ => 0) = 0
  | 0 => rfl
  | n + 1 => by rw [pk_succ, pk_zero n]
theorem colC (c m : Nat) : c * colN (fun _ => 1) m = pk m (fun _ => c) := by rw [colN_pk, pk_mul, Nat.mul_one]
theorem wsB_len (m : Nat) : (wsB m).length = 16 := rfl
theorem llB_get (m j : Nat) (hj : j < 16) (u v : Nat → Nat) : ([176 * colN (fun _ => 1) m, 0, 0, 0, 0, 0, 0, 0, 0, 0, 32768 * colN (fun _ => 1) m, 3556966400 * colN (fun _ => 1) m, 224 * colN (fun _ => 1) m, 33685504 * colN (fun _ => 1) m, colN u m, colN v m] : List Nat).getD j 0 = pk m (fun i => ([176, 0, 0, 0, 0, 0, 0, 0, 0, 0, 32768, 3556966400, 224, 33685504, u i, v i] : List Nat).getD j 0) := by
  rcases j with _ | _ | _ | _ | _ | _ | _ | _ | _ | _ | _ | _ | _ | _ | _ | _ | j
  all_goals first | exact colC _ m | exact (pk_zero m).symm | exact colN_pk _ m | omega
theorem llB (m : Nat) (hm : m ≤ 8000) : LL m (wsB m) (fun i => wsOf (encP (64 + i))) := by
  refine ⟨fun i => (ws_len _).trans (wsB_len m).symm, fun j hj => ⟨?_, fun i => ws_lt _ (by rw [wsB_len] at hj; exact hj)⟩⟩
  rw [wsB_len] at hj
  have hw : ∀ i, i < m → (wsOf (encP (64 + i))).getD j 0 = ([176, 0, 0, 0, 0, 0, 0, 0, 0, 0, 32768, 3556966400, 224, 33685504, w1P (64 + i), w0P (64 + i)] : List Nat).getD j 0 := fun i hi => by rw [ws_two (n := 64 + i) (by omega) (by omega)]
  have key := llB_get m j hj (fun i => w1P (64 + i)) (fun i => w0P (64 + i))
  unfold wsB
  rw [key]
  exact pk_congr _ _ _ fun i hi => (hw i hi).symm
/-- the keys of n plays -/
def keysN (n : Nat) : Nat := keyM (m32 * colN (fun _ => 1) 64) (colN (fun _ => 1) 64) wsA + 18446744073709551616 ^ 64 * keyM (m32 * colN (fun _ => 1) n) (colN (fun _ => 1) n) (wsB n)
theorem mk32_col (n : Nat) : m32 * colN (fun _ => 1) n = mk32 n := colC m32 n
theorem keysN_eq (n : Nat) (hn : n ≤ 8000) : keysN n = pk (64 + n) keyP := by
  have hA := key_lanes (Nat.le_of_eq wsA_len.symm) llA
  have hB := key_lanes (Nat.le_of_eq (wsB_len n).symm) (llB n hn)
  unfold keysN
  rw [mk32_col, mk32_col, colN_pk, colN_pk, hA.1, hB.1, pk_app]
  rfl
/-- no two lanes of distance r are the same, r from n - m on: K, with its last lanes cut off; its first n - m lanes cut off; a one in each of m lanes -/
def dist : Nat → Nat → Nat → Nat → Bool := fun fuel => Nat.rec (motive := fun _ => Nat → Nat → Nat → Bool) (fun _ _ _ => true)
  (fun _ ih K S O => fN (S >>> 64) fun S' => fN (O >>> 64) fun O' => fN (((K &&& (O' * 18446744073709551615)) ^^^ S') + O' * 9223372036854775807) fun X => cond (Nat.beq (X &&& (O' * 9223372036854775808)) (O' * 9223372036854775808)) (ih K S' O') false) fuel
theorem dist_succ (m K S O : Nat) : dist (m + 1) K S O = fN (S >>> 64) fun S' => fN (O >>> 64) fun O' => fN (((K &&& (O' * 18446744073709551615)) ^^^ S') + O' * 9223372036854775807) fun X => cond (Nat.beq (X &&& (O' * 9223372036854775808)) (O' * 9223372036854775808)) (dist m K S' O') false := rfl
theorem pk_shr64 (n : Nat) (f : Nat → Nat) (hf : f 0 < 18446744073709551616) : pk (n + 1) f >>> 64 = pk n (fun i => f (i + 1)) := by
  rw [pk_succ]
  rw [Nat.shiftRight_eq_div_pow]
  omega
theorem pk_inj : ∀ (n : Nat) (f g : Nat → Nat), (∀ i, f i < 18446744073709551616) → (∀ i, g i < 18446744073709551616) → pk n f = pk n g → ∀ i, i < n → f i = g i
  | 0, _, _, _, _, _, i, hi => absurd hi (Nat.not_lt_zero i)
  | n + 1, f, g, hf, hg, h, i, hi => by
    rw [pk_succ, pk_succ] at h
    have h1 := hf 0
    have h2 := hg 0
    cases i with
    | zero => omega
    | succ i => exact pk_inj n (fun i => f (i + 1)) (fun i => g (i + 1)) (fun i => hf (i + 1)) (fun i => hg (i + 1)) (by omega) i (by omega)
theorem pk_low (m k : Nat) (f : Nat → Nat) (hf : ∀ i, f i < 18446744073709551616) : pk (m + k) f &&& (pk m (fun _ => 1) * 18446744073709551615) = pk m f := by
  rw [Nat.mul_comm, pk_mul]
  have h0 : pk m (fun _ => 18446744073709551615 * 1) = pk (m + k) (fun i => if i < m then 18446744073709551615 else 0) := by
    rw [pk_app, pk_congr k (fun i => if m + i < m then 18446744073709551615 else 0) (fun _ => 0) (fun i _ => if_neg (by omega)), pk_zero, Nat.mul_zero, Nat.add_zero]
    exact pk_congr _ _ _ fun i hi => (if_pos hi).symm
  rw [h0, pk_and _ _ _ hf (fun i => by split <;> decide), pk_app, pk_congr k (fun i => f (m + i) &&& if m + i < m then 18446744073709551615 else 0) (fun _ => 0) (fun i _ => by rw [if_neg (by omega), Nat.and_zero]), pk_zero, Nat.mul_zero, Nat.add_zero]
  exact pk_congr _ _ _ fun i hi => by
    rw [if_pos hi, show (18446744073709551615 : Nat) = 2 ^ 64 - 1 from rfl, Nat.and_two_pow_sub_one_eq_mod]
    exact Nat.mod_eq_of_lt (hf i)
theorem dist_ok (n : Nat) (f : Nat → Nat) (hf : ∀ i, f i < 4294967296) : ∀ (fuel r : Nat), r + fuel = n → dist fuel (pk n f) (pk fuel (fun i => f (i + r))) (pk fuel (fun _ => 1)) = true → ∀ d, r < d → d < n → ∀ i, i + d < n → f i ≠ f (i + d)
  | 0, r, hr, _, d, h1, h2, i, hi => by omega
  | m + 1, r, hr, h, d, h1, h2, i, hi => by
    have hf64 : ∀ i, f i < 18446744073709551616 := fun i => by have := hf i; omega
    have hS : pk (m + 1) (fun i => f (i + r)) >>> 64 = pk m (fun i => f (i + (r + 1))) := by
      have h3 := pk_shr64 m (fun i => f (i + r)) (hf64 _)
      exact h3.trans (pk_congr _ _ _ fun i _ => by show f (i + 1 + r) = _; rw [show i + 1 + r = i + (r + 1) by omega])
    have hO : pk (m + 1) (fun _ => 1) >>> 64 = pk m (fun _ => 1) := pk_shr64 _ _ (by decide)
    have hK : pk n f &&& (pk m (fun _ => 1) * 18446744073709551615) = pk m f := by rw [show n = m + (n - m) by omega]; exact pk_low _ _ f hf64
    have hstep : dist (m + 1) (pk n f) (pk (m + 1) (fun i => f (i + r))) (pk (m + 1) (fun _ => 1)) = cond (Nat.beq (((pk m f ^^^ pk m (fun i => f (i + (r + 1)))) + pk m (fun _ => 1) * 9223372036854775807) &&& (pk m (fun _ => 1) * 9223372036854775808)) (pk m (fun _ => 1) * 9223372036854775808)) (dist m (pk n f) (pk m (fun i => f (i + (r + 1)))) (pk m (fun _ => 1))) false := by
      rw [dist_succ, fN_eq, hS, fN_eq, hO, fN_eq, hK]
    rw [hstep] at h
    cases hb : Nat.beq (((pk m f ^^^ pk m (fun i => f (i + (r + 1)))) + pk m (fun _ => 1) * 9223372036854775807) &&& (pk m (fun _ => 1) * 9223372036854775808)) (pk m (fun _ => 1) * 9223372036854775808)
    · rw [hb] at h; cases h
    · rw [hb] at h
      by_cases hd : d = r + 1
      · subst hd
        have he := Nat.eq_of_beq_eq_true hb
        have hx : ∀ i, f i ^^^ f (i + (r + 1)) < 4294967296 := fun i => Nat.xor_lt_two_pow (n := 32) (hf i) (hf _)
        rw [pk_xor _ _ _ hf64 (fun i => hf64 _), Nat.mul_comm _ 9223372036854775807, Nat.mul_comm _ 9223372036854775808, pk_mul, pk_mul, pk_add, pk_and _ _ _ (fun i => by have := hx i; omega) (fun _ => by decide)] at he
        have hi' := pk_inj _ _ _ (fun i => Nat.and_lt_two_pow (n := 64) _ (by decide)) (fun _ => by decide) he i (by omega)
        intro e
        rw [← e, Nat.xor_self] at hi'
        exact absurd hi' (by decide)
      · exact dist_ok n f hf m (r + 1) (by omega) h d (by omega) h2 i hi
def checkP (n : Nat) : Bool := fN (keysN n) fun K => fN (colN (fun _ => 1) (64 + n)) fun O => dist (64 + n) K K O
theorem checkP_ok (n : Nat) (hn : n ≤ 8000) (h : checkP n = true) {i j : Nat} (hi : i < 64 + n) (hj : j < 64 + n) (hij : i ≠ j) : sha k0F (encP i) ≠ sha k0F (encP j) := by
  unfold checkP at h
  rw [fN_eq, fN_eq, keysN_eq n hn, colN_pk] at h
  have hd := dist_ok (64 + n) keyP keyP_lt (64 + n) 0 (by omega) h
  intro he
  have hk := sha_key (pad_one (by omega)) (pad_one (by omega)) he
  rcases Nat.lt_or_gt_of_ne hij with h1 | h1
  · have := hd (j - i) (by omega) (by omega) i (by omega)
    rw [show i + (j - i) = j by omega] at this
    exact this hk
  · have := hd (i - j) (by omega) (by omega) j (by omega)
    rw [show j + (i - j) = i by omega] at this
    exact this hk.symm
end Go.Proofs.YtnlphbfjeekooaaGreatDoor.RW

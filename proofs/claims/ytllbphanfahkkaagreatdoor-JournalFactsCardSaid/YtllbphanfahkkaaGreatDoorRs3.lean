/-
  Package royaltyref02: block: what it returns; only new memory is written.
-/
import Derived.Deep.DeepCutAuto
import Derived.Test.YtllbphanfahkkaaGreatDoorMQ5
namespace Go.Proofs.YtllbphanfahkkaaGreatDoor
open Go.RowKit RG
namespace RW
def wordsU (W : Nat → Int) (n : Nat) : List Value := (List.range n).map fun i => .int .u32 (W i)
theorem wordsU_len (W : Nat → Int) (n : Nat) : (wordsU W n).length = n := by simp [wordsU]
theorem wordsU_get (W : Nat → Int) (n i : Nat) (h : i < n) : (wordsU W n)[i]? = some (.int .u32 (W i)) := by simp [wordsU, h]
theorem wordsU_succ (W : Nat → Int) (n : Nat) (x : Int) (h : x = W n) : wordsU W n ++ [.int .u32 x] = wordsU W (n + 1) := by
  unfold wordsU; rw [List.range_succ, List.map_append, h]; rfl
theorem bits_u32_range (op : BinOp) (a b : Int) : 0 ≤ bits op .u32 a b ∧ bits op .u32 a b < 4294967296 := by
  have h : ∀ v : BitVec 32, 0 ≤ IntKind.u32.wrap (v.toNat : Int) ∧ IntKind.u32.wrap (v.toNat : Int) < 4294967296 := fun v => by rw [IntKind.wrap_u32]; omega
  unfold bits
  first
    | (simp only []; split <;> exact h _)
    | exact h _
theorem xor0 (a : Int) (h : 0 ≤ a ∧ a < 4294967296) : bits .xor .u32 0 a = a := by
  have hx : ∀ n : Nat, n < 4294967296 → bits .xor .u32 0 (n : Int) = (n : Int) := fun n hn => by
    have e : bits .xor .u32 0 (n : Int) = IntKind.u32.wrap ((0#32 ^^^ BitVec.ofInt 32 (n : Int)).toNat : Int) := rfl
    rw [e, BitVec.zero_xor, IntKind.wrap_u32]
    simp
    omega
  obtain ⟨n, rfl⟩ := Int.eq_ofNat_of_zero_le h.1
  exact hx n (by omega)
theorem mix2R (x : Int) (p q : Nat) : bits .xor .u32 (rotr x p) (rotr x q) = mixF x [p, q] := by
  simp only [mixF, List.foldl_cons, List.foldl_nil]
  rw [xor0 (rotr x p) (bits_u32_range _ _ _)]
theorem mix3R (x : Int) (p q r : Nat) : bits .xor .u32 (bits .xor .u32 (rotr x p) (rotr x q)) (rotr x r) = mixF x [p, q, r] := by
  simp only [mixF, List.foldl_cons, List.foldl_nil]
  rw [xor0 (rotr x p) (bits_u32_range _ _ _)]
end RW
/-- the worlds of a region that builds and appends -/
def st3 (W0 W1 W2 : World) : Nat → World → Prop
  | 0, w => w = W0
  | 1, w => w = W1
  | _, w => w = W2
theorem st3_0 {W0 W1 W2 w : World} (h : st3 W0 W1 W2 0 w) : w = W0 := h
theorem st3_1 {W0 W1 W2 w : World} (h : st3 W0 W1 W2 1 w) : w = W1 := h
theorem st3_z {W0 W1 W2 w : World} {j : Nat} (h : st3 W0 W1 W2 j w) (hj : j ≤ 0) : w = W0 := by
  obtain rfl : j = 0 := by omega
  exact h
theorem owns_mono {w : World} {B B' : Nat} {e : TypeId} {size n : Nat} {v : Value} {xs : List Value} (h : w.ownsRow B e size v n xs) (hb : B' ≤ B) : w.ownsRow B' e size v n xs := by
  refine ⟨h.1, ?_⟩
  rcases h.2 with h1 | ⟨g, cap, cur, h1, h2, h3⟩
  · exact .inl h1
  · exact .inr ⟨g, cap, cur, h1, by omega, h3⟩
theorem owns_cell {w : World} {B : Nat} {e : TypeId} {g n cap : Nat} {xs : List Value} (h : w.ownsRow B e 1 (.slice (some ⟨g, 0, none⟩) n cap) n xs) (i : Nat) (u : Value) (hi : xs[i]? = some u) : w.cell? ⟨g, i, none⟩ = some u := by
  have := h.cells (g := g) rfl i u hi
  have e : (⟨g, 0, none⟩ : Addr).add i = ⟨g, i, none⟩ := by cases i <;> simp [Addr.add]
  rwa [e] at this
theorem owns_some {w : World} {B e : Nat} {v : Value} {n : Nat} {xs : List Value} (h : w.ownsRow B e 1 v (n + 1) xs) : ∃ g cap, v = .slice (some ⟨g, 0, none⟩) (n + 1) cap := by
  rcases h.2 with ⟨_, h2⟩ | ⟨g, cap, cur, h2, _⟩
  · omega
  · exact ⟨g, cap, h2⟩
/-- a word is built and appended to a row of the call's own -/
theorem app_word {B : Nat} {w wr : World} {v : Value} {n : Nat} {xs : List Value} (hown : wr.ownsRow B 119 1 v n xs) (hB : Below B w wr) (hs : B ≤ wr.heap.size) (hn : n ≤ 1000) (x : Int) :
    ∃ v' w3, (Builtin.append_ #[120, 120] 120 #[v, .slice (some ⟨wr.heap.size, 0, none⟩) 1 1]).run Tryz.prog (wr.drew.alloc (.cells #[.int .u32 x] 119)) = .ok v' w3 ∧
      w3.ownsRow B 119 1 v' (n + 1) (xs ++ [.int .u32 x]) ∧ Below B w w3 ∧ B ≤ w3.heap.size := by
  obtain ⟨i0, hi, hz0, hz1, hz2⟩ := info_parts info_u32
  have hownD : wr.drew.ownsRow B 119 1 v n xs := hown
  obtain ⟨v', w3, hr, h2, h3, _⟩ := run_append_own (P := Tryz.prog) (wr.drew.alloc (.cells #[.int .u32 x] 119)) B 120 120 119 i0 (.int .u32 0) 1 4 Tryz.underlying120 hi hz0 hz1 hz2 rfl (by decide) v n xs (hownD.alloc _)
    ⟨wr.heap.size, 0, none⟩ 1 1 [.int .u32 x] rfl (cell_one_new wr.drew _ _) (by intro u hu; simp at hu; subst hu; rfl) (by unfold maxLen; omega) (by omega) (by simp; exact Nat.le_succ_of_le hs)
  obtain ⟨h4, h5⟩ := below_app (o := .cells #[.int .u32 x] 119) hB.drew (by exact hs) hownD h3
  exact ⟨v', w3, hr, h2, h4, h5⟩
theorem owns_pos {w : World} {B e : Nat} {v : Value} {n : Nat} {xs : List Value} (h : w.ownsRow B e 1 v n xs) (hn : 0 < n) : ∃ g cap, v = .slice (some ⟨g, 0, none⟩) n cap := by
  rcases h.2 with ⟨_, h2⟩ | ⟨g, cap, cur, h2, _⟩
  · omega
  · exact ⟨g, cap, h2⟩
/-- the world is forgotten but for what is said of it -/
theorem gen_wR {P : Program} {c : Code} {Q : Exit → Act → World → Prop} {a : Act} {W : World} (R : World → Prop) (hR : R W) (h : ∀ W', R W' → Code.wp P c Q a W') : Code.wp P c Q a W := h W hR
theorem below_drewK {B : Nat} {a w : World} {n : Nat} (h : Below B a w) : Below B a (w.drewN n) := ⟨h.os, h.tape, h.output, h.size, h.block⟩
def BlkPost (H b : Nat → Int) (w : World) (e : Ending) (w' : World) : Prop :=
  ∃ v, e = .returned v ∧ w'.ownsRow w.heap.size 119 1 v 8 (RW.wordsU (RW.hnew H RW.k0F (RW.wf b)) 8) ∧ Below w.heap.size w w'

set_option maxRecDepth 100000 in
set_option maxHeartbeats 16000000 in
theorem block_any (H b : Nat → Int) (gh ch gb ao cb : Nat) (hb : ∀ i, i < 64 → 0 ≤ b i ∧ b i ≤ 255) (w : World) (lh : gh < w.heap.size) (lb : gb < w.heap.size)
    (cH : ∀ i, i < 8 → w.cell? ⟨gh, i, none⟩ = some (.int .u32 (H i))) (cB : ∀ i, i < 64 → w.cell? ⟨gb, ao + i, none⟩ = some (.int .u8 (b i))) :
    Calls Tryz.prog 64 #[.slice (some ⟨gh, 0, none⟩) 8 ch, .slice (some ⟨gb, ao, none⟩) 64 cb] w (BlkPost H b w) := by
  obtain ⟨i0, hi, hz0, hz1, hz2⟩ := info_parts info_u32
  obtain ⟨B, hB⟩ : ∃ b, b = w.heap.size := ⟨_, rfl⟩
  have hBH := hide hB
  have hwB := hide (show B ≤ w.heap.size by omega)
  rw [← hB] at lh lb
  have cHH := hide cH; have cBH := hide cB; have hbH := hide hb
  clear hB cH cB hb
  go_enter Tryz.func64, Tryz.ntmps64
  go_wp2
  go_loopw [5, 6] (fun v i wr => ∃ k : Nat, k ≤ 16 ∧ i = .int .i64 k ∧ wr.ownsRow B 119 1 v k (RW.wordsU (RW.wf b) k) ∧ Below B w wr ∧ B ≤ wr.heap.size) (fun _ i _ => 16 - (intOf i).toNat)
  case atStart => exact ⟨0, by omega, rfl, World.ownsRow_nil _ _ _ _, Below.refl _ _, hwB.out⟩
  case round =>
    obtain ⟨k, hk, rfl, hown, hBw, hBs⟩ := hrel
    by_cases hlt : k < 16
    · go_upto_region 5 with fail
      have hx : bits .or .u32 (bits .or .u32 (bits .or .u32 (b (4 * k) * 2 ^ 24 % 4294967296) (b (4 * k + 1) * 2 ^ 16 % 4294967296)) (b (4 * k + 2) * 2 ^ 8 % 4294967296)) (b (4 * k + 3)) = RW.wf b k := by
        rw [RW.wf_eq, if_pos hlt]
        unfold RW.w16
        have h0 := hbH.out (4 * k) (by omega); have h1 := hbH.out (4 * k + 1) (by omega); have h2 := hbH.out (4 * k + 2) (by omega)
        rw [show b (4 * k) * 2 ^ 24 % 4294967296 = b (4 * k) * 16777216 by omega, show b (4 * k + 1) * 2 ^ 16 % 4294967296 = b (4 * k + 1) * 65536 by omega, show b (4 * k + 2) * 2 ^ 8 % 4294967296 = b (4 * k + 2) * 256 by omega]
      obtain ⟨nb, hnb⟩ : ∃ n, n = wr.heap.size := ⟨_, rfl⟩
      obtain ⟨v', w3, happ, hown', hB3, hs3⟩ := app_word hown hBw hBs (by omega) (bits .or .u32 (bits .or .u32 (bits .or .u32 (b (4 * k) * 2 ^ 24 % 4294967296) (b (4 * k + 1) * 2 ^ 16 % 4294967296)) (b (4 * k + 2) * 2 ^ 8 % 4294967296)) (b (4 * k + 3)))
      rw [RW.wordsU_succ _ _ _ hx] at hown'
      rw [← hnb] at happ
      have cb4 : ∀ i, i < 64 → wr.drew.cell? ⟨gb, ao + i, none⟩ = some (.int .u8 (b i)) := fun i hi => (World.cell?_of_block (a := ⟨gb, ao + i, none⟩) (hBw.block _ lb)).trans (cBH.out i hi)
      refine wp_region_staged (st3 wr.drew (wr.drew.alloc (.cells #[.int .u32 (bits .or .u32 (bits .or .u32 (bits .or .u32 (b (4 * k) * 2 ^ 24 % 4294967296) (b (4 * k + 1) * 2 ^ 16 % 4294967296)) (b (4 * k + 2) * 2 ^ 8 % 4294967296)) (b (4 * k + 3)))] 119)) w3) [34, 35] (by kernel_rfl) (by kernel_rfl) (by rfl) rfl ?_
      refine st_val (_) (by rfl) (by rfl) (fun w => rfl) ?_
      simp only [Act.put, List.setIfInBounds_toArray, List.set_cons_zero, List.set_cons_succ]
      refine st_val (.slice (some ⟨gb, ao, none⟩) 64 cb) (by rfl) (by rfl) (fun w => rfl) ?_
      simp only [Act.put, List.setIfInBounds_toArray, List.set_cons_zero, List.set_cons_succ]
      refine st_val (.int .i64 ((k : Nat) : Int)) (by rfl) (by rfl) (fun w => rfl) ?_
      simp only [Act.put, List.setIfInBounds_toArray, List.set_cons_zero, List.set_cons_succ]
      refine st_val (.int .i64 (((4 * k) : Nat) : Int)) (by rfl) (by rfl) (fun w => OP.mul_i rfl rfl rfl (by omega) (by omega)) ?_
      simp only [Act.put, List.setIfInBounds_toArray, List.set_cons_zero, List.set_cons_succ]
      refine st_val (.pointer (some ⟨gb, ao + (4 * k), none⟩)) (by rfl) (by rfl) (fun w => OP.idx_b (i := (4 * k)) rfl rfl rfl (by omega)) ?_
      simp only [Act.put, List.setIfInBounds_toArray, List.set_cons_zero, List.set_cons_succ]
      refine st_op_in 0 0 (.int .u8 (b ((4 * k)))) (by rfl) (by rfl) (.inl rfl) (.inr (by decide +kernel)) (fun j w' _ hj hS => by rw [OP.load_b rfl rfl (by have hS := st3_z hS hj; subst hS; exact cb4 ((4 * k)) (by omega))]; exact ⟨rfl, hS⟩) ?_
      simp only [Act.put, List.setIfInBounds_toArray, List.set_cons_zero, List.set_cons_succ]
      refine st_val (.int .u32 (b ((4 * k)))) (by rfl) (by rfl) (fun w => OP.conv_up rfl rfl (hbH.out _ (by omega))) ?_
      simp only [Act.put, List.setIfInBounds_toArray, List.set_cons_zero, List.set_cons_succ]
      refine st_val (.int .u32 ((b ((4 * k))) * 2 ^ 24 % 4294967296)) (by rfl) (by rfl) (fun w => OP.shl_u (n := 24) rfl rfl rfl (by decide)) ?_
      simp only [Act.put, List.setIfInBounds_toArray, List.set_cons_zero, List.set_cons_succ]
      refine st_val (.slice (some ⟨gb, ao, none⟩) 64 cb) (by rfl) (by rfl) (fun w => rfl) ?_
      simp only [Act.put, List.setIfInBounds_toArray, List.set_cons_zero, List.set_cons_succ]
      refine st_val (.int .i64 ((k : Nat) : Int)) (by rfl) (by rfl) (fun w => rfl) ?_
      simp only [Act.put, List.setIfInBounds_toArray, List.set_cons_zero, List.set_cons_succ]
      refine st_val (.int .i64 (((4 * k) : Nat) : Int)) (by rfl) (by rfl) (fun w => OP.mul_i rfl rfl rfl (by omega) (by omega)) ?_
      simp only [Act.put, List.setIfInBounds_toArray, List.set_cons_zero, List.set_cons_succ]
      refine st_val (.int .i64 ((((4 * k) + 1) : Nat) : Int)) (by rfl) (by rfl) (fun w => OP.add_i rfl rfl rfl (by omega) (by omega)) ?_
      simp only [Act.put, List.setIfInBounds_toArray, List.set_cons_zero, List.set_cons_succ]
      refine st_val (.pointer (some ⟨gb, ao + ((4 * k) + 1), none⟩)) (by rfl) (by rfl) (fun w => OP.idx_b (i := ((4 * k) + 1)) rfl rfl rfl (by omega)) ?_
      simp only [Act.put, List.setIfInBounds_toArray, List.set_cons_zero, List.set_cons_succ]
      refine st_op_in 0 0 (.int .u8 (b (((4 * k) + 1)))) (by rfl) (by rfl) (.inl rfl) (.inr (by decide +kernel)) (fun j w' _ hj hS => by rw [OP.load_b rfl rfl (by have hS := st3_z hS hj; subst hS; exact cb4 (((4 * k) + 1)) (by omega))]; exact ⟨rfl, hS⟩) ?_
      simp only [Act.put, List.setIfInBounds_toArray, List.set_cons_zero, List.set_cons_succ]
      refine st_val (.int .u32 (b (((4 * k) + 1)))) (by rfl) (by rfl) (fun w => OP.conv_up rfl rfl (hbH.out _ (by omega))) ?_
      simp only [Act.put, List.setIfInBounds_toArray, List.set_cons_zero, List.set_cons_succ]
      refine st_val (.int .u32 ((b (((4 * k) + 1))) * 2 ^ 16 % 4294967296)) (by rfl) (by rfl) (fun w => OP.shl_u (n := 16) rfl rfl rfl (by decide)) ?_
      simp only [Act.put, List.setIfInBounds_toArray, List.set_cons_zero, List.set_cons_succ]
      refine st_val (.int .u32 (bits .or .u32 ((b ((4 * k))) * 2 ^ 24 % 4294967296) ((b (((4 * k) + 1))) * 2 ^ 16 % 4294967296))) (by rfl) (by rfl) (fun w => OP.or_u rfl rfl rfl) ?_
      simp only [Act.put, List.setIfInBounds_toArray, List.set_cons_zero, List.set_cons_succ]
      refine st_val (.slice (some ⟨gb, ao, none⟩) 64 cb) (by rfl) (by rfl) (fun w => rfl) ?_
      simp only [Act.put, List.setIfInBounds_toArray, List.set_cons_zero, List.set_cons_succ]
      refine st_val (.int .i64 ((k : Nat) : Int)) (by rfl) (by rfl) (fun w => rfl) ?_
      simp only [Act.put, List.setIfInBounds_toArray, List.set_cons_zero, List.set_cons_succ]
      refine st_val (.int .i64 (((4 * k) : Nat) : Int)) (by rfl) (by rfl) (fun w => OP.mul_i rfl rfl rfl (by omega) (by omega)) ?_
      simp only [Act.put, List.setIfInBounds_toArray, List.set_cons_zero, List.set_cons_succ]
      refine st_val (.int .i64 ((((4 * k) + 2) : Nat) : Int)) (by rfl) (by rfl) (fun w => OP.add_i rfl rfl rfl (by omega) (by omega)) ?_
      simp only [Act.put, List.setIfInBounds_toArray, List.set_cons_zero, List.set_cons_succ]
      refine st_val (.pointer (some ⟨gb, ao + ((4 * k) + 2), none⟩)) (by rfl) (by rfl) (fun w => OP.idx_b (i := ((4 * k) + 2)) rfl rfl rfl (by omega)) ?_
      simp only [Act.put, List.setIfInBounds_toArray, List.set_cons_zero, List.set_cons_succ]
      refine st_op_in 0 0 (.int .u8 (b (((4 * k) + 2)))) (by rfl) (by rfl) (.inl rfl) (.inr (by decide +kernel)) (fun j w' _ hj hS => by rw [OP.load_b rfl rfl (by have hS := st3_z hS hj; subst hS; exact cb4 (((4 * k) + 2)) (by omega))]; exact ⟨rfl, hS⟩) ?_
      simp only [Act.put, List.setIfInBounds_toArray, List.set_cons_zero, List.set_cons_succ]
      refine st_val (.int .u32 (b (((4 * k) + 2)))) (by rfl) (by rfl) (fun w => OP.conv_up rfl rfl (hbH.out _ (by omega))) ?_
      simp only [Act.put, List.setIfInBounds_toArray, List.set_cons_zero, List.set_cons_succ]
      refine st_val (.int .u32 ((b (((4 * k) + 2))) * 2 ^ 8 % 4294967296)) (by rfl) (by rfl) (fun w => OP.shl_u (n := 8) rfl rfl rfl (by decide)) ?_
      simp only [Act.put, List.setIfInBounds_toArray, List.set_cons_zero, List.set_cons_succ]
      refine st_val (.int .u32 (bits .or .u32 (bits .or .u32 ((b ((4 * k))) * 2 ^ 24 % 4294967296) ((b (((4 * k) + 1))) * 2 ^ 16 % 4294967296)) ((b (((4 * k) + 2))) * 2 ^ 8 % 4294967296))) (by rfl) (by rfl) (fun w => OP.or_u rfl rfl rfl) ?_
      simp only [Act.put, List.setIfInBounds_toArray, List.set_cons_zero, List.set_cons_succ]
      refine st_val (.slice (some ⟨gb, ao, none⟩) 64 cb) (by rfl) (by rfl) (fun w => rfl) ?_
      simp only [Act.put, List.setIfInBounds_toArray, List.set_cons_zero, List.set_cons_succ]
      refine st_val (.int .i64 ((k : Nat) : Int)) (by rfl) (by rfl) (fun w => rfl) ?_
      simp only [Act.put, List.setIfInBounds_toArray, List.set_cons_zero, List.set_cons_succ]
      refine st_val (.int .i64 (((4 * k) : Nat) : Int)) (by rfl) (by rfl) (fun w => OP.mul_i rfl rfl rfl (by omega) (by omega)) ?_
      simp only [Act.put, List.setIfInBounds_toArray, List.set_cons_zero, List.set_cons_succ]
      refine st_val (.int .i64 ((((4 * k) + 3) : Nat) : Int)) (by rfl) (by rfl) (fun w => OP.add_i rfl rfl rfl (by omega) (by omega)) ?_
      simp only [Act.put, List.setIfInBounds_toArray, List.set_cons_zero, List.set_cons_succ]
      refine st_val (.pointer (some ⟨gb, ao + ((4 * k) + 3), none⟩)) (by rfl) (by rfl) (fun w => OP.idx_b (i := ((4 * k) + 3)) rfl rfl rfl (by omega)) ?_
      simp only [Act.put, List.setIfInBounds_toArray, List.set_cons_zero, List.set_cons_succ]
      refine st_op_in 0 0 (.int .u8 (b (((4 * k) + 3)))) (by rfl) (by rfl) (.inl rfl) (.inr (by decide +kernel)) (fun j w' _ hj hS => by rw [OP.load_b rfl rfl (by have hS := st3_z hS hj; subst hS; exact cb4 (((4 * k) + 3)) (by omega))]; exact ⟨rfl, hS⟩) ?_
      simp only [Act.put, List.setIfInBounds_toArray, List.set_cons_zero, List.set_cons_succ]
      refine st_val (.int .u32 (b (((4 * k) + 3)))) (by rfl) (by rfl) (fun w => OP.conv_up rfl rfl (hbH.out _ (by omega))) ?_
      simp only [Act.put, List.setIfInBounds_toArray, List.set_cons_zero, List.set_cons_succ]
      refine st_val (.int .u32 (bits .or .u32 (bits .or .u32 (bits .or .u32 ((b ((4 * k))) * 2 ^ 24 % 4294967296) ((b (((4 * k) + 1))) * 2 ^ 16 % 4294967296)) ((b (((4 * k) + 2))) * 2 ^ 8 % 4294967296)) (b (((4 * k) + 3))))) (by rfl) (by rfl) (fun w => OP.or_u rfl rfl rfl) ?_
      simp only [Act.put, List.setIfInBounds_toArray, List.set_cons_zero, List.set_cons_succ]
      refine st_step 0 (.slice (some ⟨nb, 0, none⟩) 1 1) (by rfl) (by rfl) (by decide +kernel) (fun w' hS => by have hS := st3_0 hS; subst hS; rw [OP.build_w rfl rfl]; exact ⟨by rw [hnb]; rfl, rfl⟩) ?_
      simp only [Act.put, List.setIfInBounds_toArray, List.set_cons_zero, List.set_cons_succ]
      refine st_step 1 (v') (by rfl) (by rfl) (by decide +kernel) (fun w' hS => by have hS := st3_1 hS; subst hS; rw [OP.app rfl rfl rfl happ]; exact ⟨rfl, rfl⟩) ?_
      simp only [Act.put, List.setIfInBounds_toArray, List.set_cons_zero, List.set_cons_succ]
      refine st_val (v') (by rfl) (by rfl) (fun w => rfl) ?_
      simp only [Act.put, List.setIfInBounds_toArray, List.set_cons_zero, List.set_cons_succ]
      refine st_nil ?_
      intro W9 hW9
      replace hW9 : W9 = w3 := hW9
      subst hW9
      clear happ hx cb4 hown hBw hBs hnb
      go_wp2
      go_roundw
      case rel => exact ⟨k + 1, by omega, by go_num, hown', hB3, hs3⟩
      case measure => simp [intOf]; omega
    · obtain rfl : k = 16 := by omega
      go_wp2
      go_loopw [5, 7] (fun v i wr => ∃ k : Nat, k ≤ 48 ∧ i = .int .i64 ((k + 16 : Nat) : Int) ∧ wr.ownsRow B 119 1 v (k + 16) (RW.wordsU (RW.wf b) (k + 16)) ∧ Below B w wr ∧ B ≤ wr.heap.size) (fun _ i _ => 64 - (intOf i).toNat)
      case atStart => exact ⟨0, by omega, rfl, hown, hBw, hBs⟩
      case round =>
        clear hown hBw hBs
        obtain ⟨k, hk, rfl, hown, hBw, hBs⟩ := hrel
        obtain ⟨g, cap, rfl⟩ := owns_pos hown (by omega)
        have cw : ∀ i, i < k + 16 → wr.cell? ⟨g, i, none⟩ = some (.int .u32 (RW.wf b i)) := fun i hi => owns_cell hown i _ (RW.wordsU_get _ _ _ hi)
        have cwH := hide cw
        clear cw
        by_cases hlt : k < 48
        · have q1 : (k : Int) + 16 < 64 := by omega
          go_upto_region 9 with fail
          refine wp_region_staged (fun _ w' => ∃ m, w' = wr.drewN m) [] (by kernel_rfl) (by kernel_rfl) (by rfl) ⟨1, rfl⟩ ?_
          refine st_val (.slice (some ⟨g, 0, none⟩) (k + 16) cap) (by rfl) (by rfl) (fun w => rfl) ?_
          simp only [Act.put, List.setIfInBounds_toArray, List.set_cons_zero, List.set_cons_succ]
          refine st_val (.int .i64 (((k + 16) : Nat) : Int)) (by rfl) (by rfl) (fun w => rfl) ?_
          simp only [Act.put, List.setIfInBounds_toArray, List.set_cons_zero, List.set_cons_succ]
          refine st_val (.int .i64 (((k + 1) : Nat) : Int)) (by rfl) (by rfl) (fun w => OP.sub_i rfl rfl rfl (by omega) (by omega)) ?_
          simp only [Act.put, List.setIfInBounds_toArray, List.set_cons_zero, List.set_cons_succ]
          refine st_val (.pointer (some ⟨g, (k + 1), none⟩)) (by rfl) (by rfl) (fun w => OP.idx_w (i := (k + 1)) rfl rfl rfl (by omega)) ?_
          simp only [Act.put, List.setIfInBounds_toArray, List.set_cons_zero, List.set_cons_succ]
          refine st_op (.int .u32 (RW.wf b ((k + 1)))) (by rfl) (by rfl) (fun j w' hj hS => by rw [OP.load_u rfl rfl (by obtain ⟨m, rfl⟩ := hS; exact cwH.out ((k + 1)) (by omega))]; exact ⟨rfl, hS⟩) ?_
          simp only [Act.put, List.setIfInBounds_toArray, List.set_cons_zero, List.set_cons_succ]
          refine st_op (.int .u32 (RW.rotr (RW.wf b ((k + 1))) 7)) (by rfl) (by rfl) (fun j w' hj hS => by rw [OP.call2 rfl rfl rfl rfl OP.cf_rot]; obtain ⟨m, rfl⟩ := hS; exact (rotated_any (RW.wf b ((k + 1))) 7 (by decide) (by decide) _).mono fun e w'' h => by obtain ⟨rfl, q, rfl⟩ := h; exact ⟨rfl, m + q, World.drewN_drewN _ _ _⟩) ?_
          simp only [Act.put, List.setIfInBounds_toArray, List.set_cons_zero, List.set_cons_succ]
          refine st_val (.slice (some ⟨g, 0, none⟩) (k + 16) cap) (by rfl) (by rfl) (fun w => rfl) ?_
          simp only [Act.put, List.setIfInBounds_toArray, List.set_cons_zero, List.set_cons_succ]
          refine st_val (.int .i64 (((k + 16) : Nat) : Int)) (by rfl) (by rfl) (fun w => rfl) ?_
          simp only [Act.put, List.setIfInBounds_toArray, List.set_cons_zero, List.set_cons_succ]
          refine st_val (.int .i64 (((k + 1) : Nat) : Int)) (by rfl) (by rfl) (fun w => OP.sub_i rfl rfl rfl (by omega) (by omega)) ?_
          simp only [Act.put, List.setIfInBounds_toArray, List.set_cons_zero, List.set_cons_succ]
          refine st_val (.pointer (some ⟨g, (k + 1), none⟩)) (by rfl) (by rfl) (fun w => OP.idx_w (i := (k + 1)) rfl rfl rfl (by omega)) ?_
          simp only [Act.put, List.setIfInBounds_toArray, List.set_cons_zero, List.set_cons_succ]
          refine st_op (.int .u32 (RW.wf b ((k + 1)))) (by rfl) (by rfl) (fun j w' hj hS => by rw [OP.load_u rfl rfl (by obtain ⟨m, rfl⟩ := hS; exact cwH.out ((k + 1)) (by omega))]; exact ⟨rfl, hS⟩) ?_
          simp only [Act.put, List.setIfInBounds_toArray, List.set_cons_zero, List.set_cons_succ]
          refine st_op (.int .u32 (RW.rotr (RW.wf b ((k + 1))) 18)) (by rfl) (by rfl) (fun j w' hj hS => by rw [OP.call2 rfl rfl rfl rfl OP.cf_rot]; obtain ⟨m, rfl⟩ := hS; exact (rotated_any (RW.wf b ((k + 1))) 18 (by decide) (by decide) _).mono fun e w'' h => by obtain ⟨rfl, q, rfl⟩ := h; exact ⟨rfl, m + q, World.drewN_drewN _ _ _⟩) ?_
          simp only [Act.put, List.setIfInBounds_toArray, List.set_cons_zero, List.set_cons_succ]
          refine st_val (.int .u32 (bits .xor .u32 (RW.rotr (RW.wf b ((k + 1))) 7) (RW.rotr (RW.wf b ((k + 1))) 18))) (by rfl) (by rfl) (fun w => OP.xor_u rfl rfl rfl) ?_
          simp only [Act.put, List.setIfInBounds_toArray, List.set_cons_zero, List.set_cons_succ]
          refine st_val (.slice (some ⟨g, 0, none⟩) (k + 16) cap) (by rfl) (by rfl) (fun w => rfl) ?_
          simp only [Act.put, List.setIfInBounds_toArray, List.set_cons_zero, List.set_cons_succ]
          refine st_val (.int .i64 (((k + 16) : Nat) : Int)) (by rfl) (by rfl) (fun w => rfl) ?_
          simp only [Act.put, List.setIfInBounds_toArray, List.set_cons_zero, List.set_cons_succ]
          refine st_val (.int .i64 (((k + 1) : Nat) : Int)) (by rfl) (by rfl) (fun w => OP.sub_i rfl rfl rfl (by omega) (by omega)) ?_
          simp only [Act.put, List.setIfInBounds_toArray, List.set_cons_zero, List.set_cons_succ]
          refine st_val (.pointer (some ⟨g, (k + 1), none⟩)) (by rfl) (by rfl) (fun w => OP.idx_w (i := (k + 1)) rfl rfl rfl (by omega)) ?_
          simp only [Act.put, List.setIfInBounds_toArray, List.set_cons_zero, List.set_cons_succ]
          refine st_op (.int .u32 (RW.wf b ((k + 1)))) (by rfl) (by rfl) (fun j w' hj hS => by rw [OP.load_u rfl rfl (by obtain ⟨m, rfl⟩ := hS; exact cwH.out ((k + 1)) (by omega))]; exact ⟨rfl, hS⟩) ?_
          simp only [Act.put, List.setIfInBounds_toArray, List.set_cons_zero, List.set_cons_succ]
          refine st_val (.int .u32 ((RW.wf b ((k + 1))) / 2 ^ 3)) (by rfl) (by rfl) (fun w => OP.shr_u (n := 3) rfl rfl rfl (by decide)) ?_
          simp only [Act.put, List.setIfInBounds_toArray, List.set_cons_zero, List.set_cons_succ]
          refine st_val (.int .u32 (bits .xor .u32 (bits .xor .u32 (RW.rotr (RW.wf b ((k + 1))) 7) (RW.rotr (RW.wf b ((k + 1))) 18)) ((RW.wf b ((k + 1))) / 2 ^ 3))) (by rfl) (by rfl) (fun w => OP.xor_u rfl rfl rfl) ?_
          simp only [Act.put, List.setIfInBounds_toArray, List.set_cons_zero, List.set_cons_succ]
          refine st_val (.int .u32 (bits .xor .u32 (bits .xor .u32 (RW.rotr (RW.wf b ((k + 1))) 7) (RW.rotr (RW.wf b ((k + 1))) 18)) ((RW.wf b ((k + 1))) / 2 ^ 3))) (by rfl) (by rfl) (fun w => rfl) ?_
          simp only [Act.put, List.setIfInBounds_toArray, List.set_cons_zero, List.set_cons_succ]
          refine st_nil ?_
          rintro W9 ⟨m9, rfl⟩
          go_upto_region 10 with fail
          refine gen_wR (fun W => W.ownsRow B 119 1 (.slice (some ⟨g, 0, none⟩) (k + 16) cap) (k + 16) (RW.wordsU (RW.wf b) (k + 16)) ∧ Below B w W ∧ B ≤ W.heap.size) ⟨hown, below_drewK hBw, hBs⟩ ?_
          clear hown hBw hBs cwH
          rintro wr ⟨hown, hBw, hBs⟩
          have cw : ∀ i, i < k + 16 → wr.cell? ⟨g, i, none⟩ = some (.int .u32 (RW.wf b i)) := fun i hi => owns_cell hown i _ (RW.wordsU_get _ _ _ hi)
          have cwH := hide cw
          clear cw
          refine wp_region_staged (fun _ w' => ∃ m, w' = wr.drewN m) [] (by kernel_rfl) (by kernel_rfl) (by rfl) ⟨1, rfl⟩ ?_
          refine st_val (.slice (some ⟨g, 0, none⟩) (k + 16) cap) (by rfl) (by rfl) (fun w => rfl) ?_
          simp only [Act.put, List.setIfInBounds_toArray, List.set_cons_zero, List.set_cons_succ]
          refine st_val (.int .i64 (((k + 16) : Nat) : Int)) (by rfl) (by rfl) (fun w => rfl) ?_
          simp only [Act.put, List.setIfInBounds_toArray, List.set_cons_zero, List.set_cons_succ]
          refine st_val (.int .i64 (((k + 14) : Nat) : Int)) (by rfl) (by rfl) (fun w => OP.sub_i rfl rfl rfl (by omega) (by omega)) ?_
          simp only [Act.put, List.setIfInBounds_toArray, List.set_cons_zero, List.set_cons_succ]
          refine st_val (.pointer (some ⟨g, (k + 14), none⟩)) (by rfl) (by rfl) (fun w => OP.idx_w (i := (k + 14)) rfl rfl rfl (by omega)) ?_
          simp only [Act.put, List.setIfInBounds_toArray, List.set_cons_zero, List.set_cons_succ]
          refine st_op (.int .u32 (RW.wf b ((k + 14)))) (by rfl) (by rfl) (fun j w' hj hS => by rw [OP.load_u rfl rfl (by obtain ⟨m, rfl⟩ := hS; exact cwH.out ((k + 14)) (by omega))]; exact ⟨rfl, hS⟩) ?_
          simp only [Act.put, List.setIfInBounds_toArray, List.set_cons_zero, List.set_cons_succ]
          refine st_op (.int .u32 (RW.rotr (RW.wf b ((k + 14))) 17)) (by rfl) (by rfl) (fun j w' hj hS => by rw [OP.call2 rfl rfl rfl rfl OP.cf_rot]; obtain ⟨m, rfl⟩ := hS; exact (rotated_any (RW.wf b ((k + 14))) 17 (by decide) (by decide) _).mono fun e w'' h => by obtain ⟨rfl, q, rfl⟩ := h; exact ⟨rfl, m + q, World.drewN_drewN _ _ _⟩) ?_
          simp only [Act.put, List.setIfInBounds_toArray, List.set_cons_zero, List.set_cons_succ]
          refine st_val (.slice (some ⟨g, 0, none⟩) (k + 16) cap) (by rfl) (by rfl) (fun w => rfl) ?_
          simp only [Act.put, List.setIfInBounds_toArray, List.set_cons_zero, List.set_cons_succ]
          refine st_val (.int .i64 (((k + 16) : Nat) : Int)) (by rfl) (by rfl) (fun w => rfl) ?_
          simp only [Act.put, List.setIfInBounds_toArray, List.set_cons_zero, List.set_cons_succ]
          refine st_val (.int .i64 (((k + 14) : Nat) : Int)) (by rfl) (by rfl) (fun w => OP.sub_i rfl rfl rfl (by omega) (by omega)) ?_
          simp only [Act.put, List.setIfInBounds_toArray, List.set_cons_zero, List.set_cons_succ]
          refine st_val (.pointer (some ⟨g, (k + 14), none⟩)) (by rfl) (by rfl) (fun w => OP.idx_w (i := (k + 14)) rfl rfl rfl (by omega)) ?_
          simp only [Act.put, List.setIfInBounds_toArray, List.set_cons_zero, List.set_cons_succ]
          refine st_op (.int .u32 (RW.wf b ((k + 14)))) (by rfl) (by rfl) (fun j w' hj hS => by rw [OP.load_u rfl rfl (by obtain ⟨m, rfl⟩ := hS; exact cwH.out ((k + 14)) (by omega))]; exact ⟨rfl, hS⟩) ?_
          simp only [Act.put, List.setIfInBounds_toArray, List.set_cons_zero, List.set_cons_succ]
          refine st_op (.int .u32 (RW.rotr (RW.wf b ((k + 14))) 19)) (by rfl) (by rfl) (fun j w' hj hS => by rw [OP.call2 rfl rfl rfl rfl OP.cf_rot]; obtain ⟨m, rfl⟩ := hS; exact (rotated_any (RW.wf b ((k + 14))) 19 (by decide) (by decide) _).mono fun e w'' h => by obtain ⟨rfl, q, rfl⟩ := h; exact ⟨rfl, m + q, World.drewN_drewN _ _ _⟩) ?_
          simp only [Act.put, List.setIfInBounds_toArray, List.set_cons_zero, List.set_cons_succ]
          refine st_val (.int .u32 (bits .xor .u32 (RW.rotr (RW.wf b ((k + 14))) 17) (RW.rotr (RW.wf b ((k + 14))) 19))) (by rfl) (by rfl) (fun w => OP.xor_u rfl rfl rfl) ?_
          simp only [Act.put, List.setIfInBounds_toArray, List.set_cons_zero, List.set_cons_succ]
          refine st_val (.slice (some ⟨g, 0, none⟩) (k + 16) cap) (by rfl) (by rfl) (fun w => rfl) ?_
          simp only [Act.put, List.setIfInBounds_toArray, List.set_cons_zero, List.set_cons_succ]
          refine st_val (.int .i64 (((k + 16) : Nat) : Int)) (by rfl) (by rfl) (fun w => rfl) ?_
          simp only [Act.put, List.setIfInBounds_toArray, List.set_cons_zero, List.set_cons_succ]
          refine st_val (.int .i64 (((k + 14) : Nat) : Int)) (by rfl) (by rfl) (fun w => OP.sub_i rfl rfl rfl (by omega) (by omega)) ?_
          simp only [Act.put, List.setIfInBounds_toArray, List.set_cons_zero, List.set_cons_succ]
          refine st_val (.pointer (some ⟨g, (k + 14), none⟩)) (by rfl) (by rfl) (fun w => OP.idx_w (i := (k + 14)) rfl rfl rfl (by omega)) ?_
          simp only [Act.put, List.setIfInBounds_toArray, List.set_cons_zero, List.set_cons_succ]
          refine st_op (.int .u32 (RW.wf b ((k + 14)))) (by rfl) (by rfl) (fun j w' hj hS => by rw [OP.load_u rfl rfl (by obtain ⟨m, rfl⟩ := hS; exact cwH.out ((k + 14)) (by omega))]; exact ⟨rfl, hS⟩) ?_
          simp only [Act.put, List.setIfInBounds_toArray, List.set_cons_zero, List.set_cons_succ]
          refine st_val (.int .u32 ((RW.wf b ((k + 14))) / 2 ^ 10)) (by rfl) (by rfl) (fun w => OP.shr_u (n := 10) rfl rfl rfl (by decide)) ?_
          simp only [Act.put, List.setIfInBounds_toArray, List.set_cons_zero, List.set_cons_succ]
          refine st_val (.int .u32 (bits .xor .u32 (bits .xor .u32 (RW.rotr (RW.wf b ((k + 14))) 17) (RW.rotr (RW.wf b ((k + 14))) 19)) ((RW.wf b ((k + 14))) / 2 ^ 10))) (by rfl) (by rfl) (fun w => OP.xor_u rfl rfl rfl) ?_
          simp only [Act.put, List.setIfInBounds_toArray, List.set_cons_zero, List.set_cons_succ]
          refine st_val (.int .u32 (bits .xor .u32 (bits .xor .u32 (RW.rotr (RW.wf b ((k + 14))) 17) (RW.rotr (RW.wf b ((k + 14))) 19)) ((RW.wf b ((k + 14))) / 2 ^ 10))) (by rfl) (by rfl) (fun w => rfl) ?_
          simp only [Act.put, List.setIfInBounds_toArray, List.set_cons_zero, List.set_cons_succ]
          refine st_nil ?_
          rintro W9 ⟨m9, rfl⟩
          go_upto_region 11 with fail
          refine gen_wR (fun W => W.ownsRow B 119 1 (.slice (some ⟨g, 0, none⟩) (k + 16) cap) (k + 16) (RW.wordsU (RW.wf b) (k + 16)) ∧ Below B w W ∧ B ≤ W.heap.size) ⟨hown, below_drewK hBw, hBs⟩ ?_
          clear hown hBw hBs cwH
          rintro wr ⟨hown, hBw, hBs⟩
          have cw : ∀ i, i < k + 16 → wr.cell? ⟨g, i, none⟩ = some (.int .u32 (RW.wf b i)) := fun i hi => owns_cell hown i _ (RW.wordsU_get _ _ _ hi)
          have cwH := hide cw
          clear cw
          have hx : (((RW.wf b (k) + bits .xor .u32 (bits .xor .u32 (RW.rotr (RW.wf b ((k + 1))) 7) (RW.rotr (RW.wf b ((k + 1))) 18)) ((RW.wf b ((k + 1))) / 2 ^ 3)) % 4294967296 + RW.wf b ((k + 9))) % 4294967296 + bits .xor .u32 (bits .xor .u32 (RW.rotr (RW.wf b ((k + 14))) 17) (RW.rotr (RW.wf b ((k + 14))) 19)) ((RW.wf b ((k + 14))) / 2 ^ 10)) % 4294967296 = RW.wf b (k + 16) := by
            rw [RW.wf_eq b (k + 16), if_neg (by omega)]
            unfold RW.wst
            rw [show k + 16 - 16 = k by omega, show k + 16 - 15 = k + 1 by omega, show k + 16 - 7 = k + 9 by omega, show k + 16 - 2 = k + 14 by omega, RW.mix2R, RW.mix2R]
            rfl
          obtain ⟨nb, hnb⟩ : ∃ n, n = wr.heap.size := ⟨_, rfl⟩
          obtain ⟨v', w3, happ, hown', hB3, hs3⟩ := app_word hown hBw hBs (by omega) ((((RW.wf b (k) + bits .xor .u32 (bits .xor .u32 (RW.rotr (RW.wf b ((k + 1))) 7) (RW.rotr (RW.wf b ((k + 1))) 18)) ((RW.wf b ((k + 1))) / 2 ^ 3)) % 4294967296 + RW.wf b ((k + 9))) % 4294967296 + bits .xor .u32 (bits .xor .u32 (RW.rotr (RW.wf b ((k + 14))) 17) (RW.rotr (RW.wf b ((k + 14))) 19)) ((RW.wf b ((k + 14))) / 2 ^ 10)) % 4294967296)
          rw [RW.wordsU_succ _ _ _ hx] at hown'
          rw [← hnb] at happ
          refine wp_region_staged (st3 wr.drew (wr.drew.alloc (.cells #[.int .u32 ((((RW.wf b (k) + bits .xor .u32 (bits .xor .u32 (RW.rotr (RW.wf b ((k + 1))) 7) (RW.rotr (RW.wf b ((k + 1))) 18)) ((RW.wf b ((k + 1))) / 2 ^ 3)) % 4294967296 + RW.wf b ((k + 9))) % 4294967296 + bits .xor .u32 (bits .xor .u32 (RW.rotr (RW.wf b ((k + 14))) 17) (RW.rotr (RW.wf b ((k + 14))) 19)) ((RW.wf b ((k + 14))) / 2 ^ 10)) % 4294967296)] 119)) w3) [16, 17] (by kernel_rfl) (by kernel_rfl) (by rfl) rfl ?_
          refine st_val (.slice (some ⟨g, 0, none⟩) (k + 16) cap) (by rfl) (by rfl) (fun w => rfl) ?_
          simp only [Act.put, List.setIfInBounds_toArray, List.set_cons_zero, List.set_cons_succ]
          refine st_val (.slice (some ⟨g, 0, none⟩) (k + 16) cap) (by rfl) (by rfl) (fun w => rfl) ?_
          simp only [Act.put, List.setIfInBounds_toArray, List.set_cons_zero, List.set_cons_succ]
          refine st_val (.int .i64 (((k + 16) : Nat) : Int)) (by rfl) (by rfl) (fun w => rfl) ?_
          simp only [Act.put, List.setIfInBounds_toArray, List.set_cons_zero, List.set_cons_succ]
          refine st_val (.int .i64 ((k : Nat) : Int)) (by rfl) (by rfl) (fun w => OP.sub_i rfl rfl rfl (by omega) (by omega)) ?_
          simp only [Act.put, List.setIfInBounds_toArray, List.set_cons_zero, List.set_cons_succ]
          refine st_val (.pointer (some ⟨g, k, none⟩)) (by rfl) (by rfl) (fun w => OP.idx_w (i := k) rfl rfl rfl (by omega)) ?_
          simp only [Act.put, List.setIfInBounds_toArray, List.set_cons_zero, List.set_cons_succ]
          refine st_op_in 0 0 (.int .u32 (RW.wf b (k))) (by rfl) (by rfl) (.inl rfl) (.inr (by decide +kernel)) (fun j w' _ hj hS => by rw [OP.load_u rfl rfl (by have hS := st3_z hS hj; subst hS; exact cwH.out (k) (by omega))]; exact ⟨rfl, hS⟩) ?_
          simp only [Act.put, List.setIfInBounds_toArray, List.set_cons_zero, List.set_cons_succ]
          refine st_val (.int .u32 (bits .xor .u32 (bits .xor .u32 (RW.rotr (RW.wf b ((k + 1))) 7) (RW.rotr (RW.wf b ((k + 1))) 18)) ((RW.wf b ((k + 1))) / 2 ^ 3))) (by rfl) (by rfl) (fun w => rfl) ?_
          simp only [Act.put, List.setIfInBounds_toArray, List.set_cons_zero, List.set_cons_succ]
          refine st_val (.int .u32 ((RW.wf b (k) + bits .xor .u32 (bits .xor .u32 (RW.rotr (RW.wf b ((k + 1))) 7) (RW.rotr (RW.wf b ((k + 1))) 18)) ((RW.wf b ((k + 1))) / 2 ^ 3)) % 4294967296)) (by rfl) (by rfl) (fun w => OP.add_u rfl rfl rfl) ?_
          simp only [Act.put, List.setIfInBounds_toArray, List.set_cons_zero, List.set_cons_succ]
          refine st_val (.slice (some ⟨g, 0, none⟩) (k + 16) cap) (by rfl) (by rfl) (fun w => rfl) ?_
          simp only [Act.put, List.setIfInBounds_toArray, List.set_cons_zero, List.set_cons_succ]
          refine st_val (.int .i64 (((k + 16) : Nat) : Int)) (by rfl) (by rfl) (fun w => rfl) ?_
          simp only [Act.put, List.setIfInBounds_toArray, List.set_cons_zero, List.set_cons_succ]
          refine st_val (.int .i64 (((k + 9) : Nat) : Int)) (by rfl) (by rfl) (fun w => OP.sub_i rfl rfl rfl (by omega) (by omega)) ?_
          simp only [Act.put, List.setIfInBounds_toArray, List.set_cons_zero, List.set_cons_succ]
          refine st_val (.pointer (some ⟨g, (k + 9), none⟩)) (by rfl) (by rfl) (fun w => OP.idx_w (i := (k + 9)) rfl rfl rfl (by omega)) ?_
          simp only [Act.put, List.setIfInBounds_toArray, List.set_cons_zero, List.set_cons_succ]
          refine st_op_in 0 0 (.int .u32 (RW.wf b ((k + 9)))) (by rfl) (by rfl) (.inl rfl) (.inr (by decide +kernel)) (fun j w' _ hj hS => by rw [OP.load_u rfl rfl (by have hS := st3_z hS hj; subst hS; exact cwH.out ((k + 9)) (by omega))]; exact ⟨rfl, hS⟩) ?_
          simp only [Act.put, List.setIfInBounds_toArray, List.set_cons_zero, List.set_cons_succ]
          refine st_val (.int .u32 (((RW.wf b (k) + bits .xor .u32 (bits .xor .u32 (RW.rotr (RW.wf b ((k + 1))) 7) (RW.rotr (RW.wf b ((k + 1))) 18)) ((RW.wf b ((k + 1))) / 2 ^ 3)) % 4294967296 + RW.wf b ((k + 9))) % 4294967296)) (by rfl) (by rfl) (fun w => OP.add_u rfl rfl rfl) ?_
          simp only [Act.put, List.setIfInBounds_toArray, List.set_cons_zero, List.set_cons_succ]
          refine st_val (.int .u32 (bits .xor .u32 (bits .xor .u32 (RW.rotr (RW.wf b ((k + 14))) 17) (RW.rotr (RW.wf b ((k + 14))) 19)) ((RW.wf b ((k + 14))) / 2 ^ 10))) (by rfl) (by rfl) (fun w => rfl) ?_
          simp only [Act.put, List.setIfInBounds_toArray, List.set_cons_zero, List.set_cons_succ]
          refine st_val (.int .u32 ((((RW.wf b (k) + bits .xor .u32 (bits .xor .u32 (RW.rotr (RW.wf b ((k + 1))) 7) (RW.rotr (RW.wf b ((k + 1))) 18)) ((RW.wf b ((k + 1))) / 2 ^ 3)) % 4294967296 + RW.wf b ((k + 9))) % 4294967296 + bits .xor .u32 (bits .xor .u32 (RW.rotr (RW.wf b ((k + 14))) 17) (RW.rotr (RW.wf b ((k + 14))) 19)) ((RW.wf b ((k + 14))) / 2 ^ 10)) % 4294967296)) (by rfl) (by rfl) (fun w => OP.add_u rfl rfl rfl) ?_
          simp only [Act.put, List.setIfInBounds_toArray, List.set_cons_zero, List.set_cons_succ]
          refine st_step 0 (.slice (some ⟨nb, 0, none⟩) 1 1) (by rfl) (by rfl) (by decide +kernel) (fun w' hS => by have hS := st3_0 hS; subst hS; rw [OP.build_w rfl rfl]; exact ⟨by rw [hnb]; rfl, rfl⟩) ?_
          simp only [Act.put, List.setIfInBounds_toArray, List.set_cons_zero, List.set_cons_succ]
          refine st_step 1 (v') (by rfl) (by rfl) (by decide +kernel) (fun w' hS => by have hS := st3_1 hS; subst hS; rw [OP.app rfl rfl rfl happ]; exact ⟨rfl, rfl⟩) ?_
          simp only [Act.put, List.setIfInBounds_toArray, List.set_cons_zero, List.set_cons_succ]
          refine st_val (v') (by rfl) (by rfl) (fun w => rfl) ?_
          simp only [Act.put, List.setIfInBounds_toArray, List.set_cons_zero, List.set_cons_succ]
          refine st_nil ?_
          intro W9 hW9
          replace hW9 : W9 = w3 := hW9
          subst hW9
          clear happ hx cwH hown hBw hBs hnb
          go_wp2
          go_roundw
          case rel => exact ⟨k + 1, by omega, by go_num, by rw [show k + 1 + 16 = k + 16 + 1 by omega]; exact hown', hB3, hs3⟩
          case measure => simp [intOf]; omega
        · have q1 : ¬ (k : Int) + 16 < 64 := by omega
          obtain rfl : k = 48 := by omega
          have hgw := (hown.lt g rfl).2
          have cw48 : ∀ i, i < 64 → wr.cell? ⟨g, i, none⟩ = some (.int .u32 (RW.wf b i)) := fun i hi => cwH.out i (by omega)
          have cHr : ∀ i, i < 8 → wr.cell? ⟨gh, i, none⟩ = some (.int .u32 (H i)) := fun i hi => (World.cell?_of_block (a := ⟨gh, i, none⟩) (hBw.block _ lh)).trans (cHH.out i hi)
          have hlr : gh < wr.heap.size := by omega
          obtain ⟨gk, hgk⟩ : ∃ n, n = wr.heap.size := ⟨_, rfl⟩
          have hnews : ∀ j u, (RW.wordsU H 8)[j]? = some u → (wr.alloc (.cells RW.k0C 119)).cell? ((⟨gh, 0, none⟩ : Addr).add j) = some u := by
            intro j u hj
            have hj8 : j < 8 := by
              rcases Nat.lt_or_ge j 8 with h | h
              · exact h
              · rw [List.getElem?_eq_none (by rw [RW.wordsU_len]; exact h)] at hj; cases hj
            rw [RW.wordsU_get _ _ _ hj8] at hj
            cases hj
            have e : (⟨gh, 0, none⟩ : Addr).add j = ⟨gh, j, none⟩ := by cases j <;> simp [Addr.add]
            rw [e, World.cell?_alloc_past _ _ _ (by exact hlr)]
            exact cHr j hj8
          have hnewsH := hide hnews
          have cw48H := hide cw48
          have cHrH := hide cHr
          clear hnews cw48 cHr cwH
          have hgkH := hide hgk
          clear hgk
          go_wp2_with (first
            | (go_at_call 105; refine (constants_any _).mono ?_; rintro e w5 ⟨rfl, rfl⟩; rw [← hgkH.out])
            | (at_builtin; refine wpList_append_own _ rfl _ _ 120 rfl (gk + 1) 119 i0 (.int .u32 0) 1 4 Tryz.underlying120 hi hz0 hz1 hz2 rfl (by decide) (.slice none 0 0) 0 [] rfl (World.ownsRow_nil _ _ _ _) ⟨gh, 0, none⟩ 8 ch (RW.wordsU H 8) rfl (RW.wordsU_len H 8) hnewsH.out ?c2 ?c3 ?c4 ?c5 ?_))
          case c2 => intro u hu; simp [RW.wordsU] at hu; obtain ⟨_, _, rfl⟩ := hu; rfl
          case c3 => unfold maxLen; omega
          case c4 => omega
          case c5 => simp [hgkH.out]
          intro v' w6 hown6 hg6 _
          have hown6 : w6.ownsRow (gk + 1) 119 1 v' 8 (RW.wordsU H 8) := by simpa using hown6
          obtain ⟨gv, cv, rfl⟩ := owns_pos hown6 (by omega)
          have hgv := hown6.lt gv rfl
          have hs6 := hg6.size
          have c6 : ∀ i, i < 8 → w6.cell? ⟨gv, i, none⟩ = some (.int .u32 (H i)) := fun i hi => owns_cell hown6 i _ (RW.wordsU_get _ _ _ hi)
          have hold : ∀ k, k < gk + 1 → w6.heap[k]? = (wr.alloc (.cells RW.k0C 119)).heap[k]? := fun k hk => hg6.block k (by simp [← hgkH.out]; omega) (by simp [Value.ownBlock])
          have hB6 : Below B w w6 := (hBw.alloc hBs _).grown hg6 (by simp; omega) (fun k hk => by simp [Value.ownBlock] at hk)
          have cw6 : ∀ i, i < 64 → w6.cell? ⟨g, i, none⟩ = some (.int .u32 (RW.wf b i)) := fun i hi => by
            rw [World.cell?_of_block (a := ⟨g, i, none⟩) (w := wr.alloc (.cells RW.k0C 119)) (hold g (by have := hgkH.out; omega)), World.cell?_alloc_past _ _ _ hgw]
            exact cw48H.out i hi
          have ck6 : ∀ i, i < 64 → w6.cell? ⟨gk, i, none⟩ = some (.int .u32 (RW.k0F i)) := fun i hi => by
            rw [World.cell?_of_block (a := ⟨gk, i, none⟩) (w := wr.alloc (.cells RW.k0C 119)) (hold gk (by omega)), World.cell?_alloc_at _ _ _ _ hgkH.out]
            exact RW.k0C_ok.2 i hi
          have hH6 : ∀ i, i < 8 → w6.cell? ⟨gh, i, none⟩ = some (.int .u32 (H i)) := fun i hi => (World.cell?_of_block (a := ⟨gh, i, none⟩) (hB6.block _ lh)).trans (cHH.out i hi)
          have c6H := hide c6; have cw6H := hide cw6; have ck6H := hide ck6; have hH6H := hide hH6
          have hl6 : gh < w6.heap.size ∧ g < w6.heap.size ∧ gk < w6.heap.size ∧ gv < w6.heap.size ∧ B ≤ w6.heap.size := by
            have := hgkH.out
            simp at hs6
            omega
          have hl6H := hide hl6
          clear c6 cw6 ck6 hH6 hold hnewsH cw48H cHrH hown hown6 hg6 hgv hgw hlr hs6 hBw hBs hgkH hl6 hlt q1 hk
          obtain ⟨n6, hn6⟩ : ∃ n, n = w6.heap.size := ⟨_, rfl⟩
          have hn6H := hide hn6
          clear hn6
          go_wp2
          go_loopw [11, 12] (fun v i wr => ∃ k g2 cap2 : Nat, k ≤ 64 ∧ i = .int .i64 k ∧ v = .slice (some ⟨g2, 0, none⟩) 8 cap2 ∧ Hid (∀ i, i < 8 → wr.cell? ⟨g2, i, none⟩ = some (.int .u32 (RW.comp H RW.k0F (RW.wf b) k i))) ∧ Below n6 w6 wr ∧ n6 ≤ wr.heap.size) (fun _ i _ => 64 - (intOf i).toNat)
          case atStart => exact ⟨0, gv, cv, by omega, rfl, rfl, c6H, Below.refl _ _, by rw [hn6H.out]; exact Nat.le_refl _⟩
          case round =>
            obtain ⟨k, g2, cap2, hk, rfl, rfl, hcv, hBw, hBs⟩ := hrel
            by_cases hlt : k < 64
            · obtain ⟨V, hV⟩ : ∃ V, V = RW.comp H RW.k0F (RW.wf b) k := ⟨_, rfl⟩
              have hVs : RW.comp H RW.k0F (RW.wf b) (k + 1) = RW.vstep V (RW.k0F k) (RW.wf b k) := by rw [hV]; rfl
              rw [← hV] at hcv
              have hVsH := hide hVs
              clear hV hVs
              have cwr : ∀ i, i < 64 → wr.cell? ⟨g, i, none⟩ = some (.int .u32 (RW.wf b i)) := fun i hi => (World.cell?_of_block (a := ⟨g, i, none⟩) (hBw.block _ (show g < n6 by have := hl6H.out; have := hn6H.out; omega))).trans (cw6H.out i hi)
              have ckr : ∀ i, i < 64 → wr.cell? ⟨gk, i, none⟩ = some (.int .u32 (RW.k0F i)) := fun i hi => (World.cell?_of_block (a := ⟨gk, i, none⟩) (hBw.block _ (show gk < n6 by have := hl6H.out; have := hn6H.out; omega))).trans (ck6H.out i hi)
              have cwH := hide cwr; have ckH := hide ckr
              clear cwr ckr
              have c0 := hcv.out 0 (by decide)
              have c4 := hcv.out 4 (by decide)
              go_upto_region 20 with fail
              clear c0 c4
              refine wp_region_staged (fun _ w' => ∃ m, w' = wr.drewN m) [] (by kernel_rfl) (by kernel_rfl) (by rfl) ⟨1, rfl⟩ ?_
              refine st_val (.slice (some ⟨g2, 0, none⟩) 8 cap2) (by rfl) (by rfl) (fun w => rfl) ?_
              simp only [Act.put, List.setIfInBounds_toArray, List.set_cons_zero, List.set_cons_succ]
              refine st_val (.pointer (some ⟨g2, 7, none⟩)) (by rfl) (by rfl) (fun w => OP.idx_w (i := 7) rfl rfl rfl (by omega)) ?_
              simp only [Act.put, List.setIfInBounds_toArray, List.set_cons_zero, List.set_cons_succ]
              refine st_op (.int .u32 (V (7))) (by rfl) (by rfl) (fun j w' hj hS => by rw [OP.load_u rfl rfl (by obtain ⟨m, rfl⟩ := hS; exact hcv.out (7) (by omega))]; exact ⟨rfl, hS⟩) ?_
              simp only [Act.put, List.setIfInBounds_toArray, List.set_cons_zero, List.set_cons_succ]
              refine st_val (.int .u32 (V 4)) (by rfl) (by rfl) (fun w => rfl) ?_
              simp only [Act.put, List.setIfInBounds_toArray, List.set_cons_zero, List.set_cons_succ]
              refine st_op (.int .u32 (RW.rotr (V 4) 6)) (by rfl) (by rfl) (fun j w' hj hS => by rw [OP.call2 rfl rfl rfl rfl OP.cf_rot]; obtain ⟨m, rfl⟩ := hS; exact (rotated_any (V 4) 6 (by decide) (by decide) _).mono fun e w'' h => by obtain ⟨rfl, q, rfl⟩ := h; exact ⟨rfl, m + q, World.drewN_drewN _ _ _⟩) ?_
              simp only [Act.put, List.setIfInBounds_toArray, List.set_cons_zero, List.set_cons_succ]
              refine st_val (.int .u32 (V 4)) (by rfl) (by rfl) (fun w => rfl) ?_
              simp only [Act.put, List.setIfInBounds_toArray, List.set_cons_zero, List.set_cons_succ]
              refine st_op (.int .u32 (RW.rotr (V 4) 11)) (by rfl) (by rfl) (fun j w' hj hS => by rw [OP.call2 rfl rfl rfl rfl OP.cf_rot]; obtain ⟨m, rfl⟩ := hS; exact (rotated_any (V 4) 11 (by decide) (by decide) _).mono fun e w'' h => by obtain ⟨rfl, q, rfl⟩ := h; exact ⟨rfl, m + q, World.drewN_drewN _ _ _⟩) ?_
              simp only [Act.put, List.setIfInBounds_toArray, List.set_cons_zero, List.set_cons_succ]
              refine st_val (.int .u32 (bits .xor .u32 (RW.rotr (V 4) 6) (RW.rotr (V 4) 11))) (by rfl) (by rfl) (fun w => OP.xor_u rfl rfl rfl) ?_
              simp only [Act.put, List.setIfInBounds_toArray, List.set_cons_zero, List.set_cons_succ]
              refine st_val (.int .u32 (V 4)) (by rfl) (by rfl) (fun w => rfl) ?_
              simp only [Act.put, List.setIfInBounds_toArray, List.set_cons_zero, List.set_cons_succ]
              refine st_op (.int .u32 (RW.rotr (V 4) 25)) (by rfl) (by rfl) (fun j w' hj hS => by rw [OP.call2 rfl rfl rfl rfl OP.cf_rot]; obtain ⟨m, rfl⟩ := hS; exact (rotated_any (V 4) 25 (by decide) (by decide) _).mono fun e w'' h => by obtain ⟨rfl, q, rfl⟩ := h; exact ⟨rfl, m + q, World.drewN_drewN _ _ _⟩) ?_
              simp only [Act.put, List.setIfInBounds_toArray, List.set_cons_zero, List.set_cons_succ]
              refine st_val (.int .u32 (bits .xor .u32 (bits .xor .u32 (RW.rotr (V 4) 6) (RW.rotr (V 4) 11)) (RW.rotr (V 4) 25))) (by rfl) (by rfl) (fun w => OP.xor_u rfl rfl rfl) ?_
              simp only [Act.put, List.setIfInBounds_toArray, List.set_cons_zero, List.set_cons_succ]
              refine st_val (.int .u32 ((V (7) + bits .xor .u32 (bits .xor .u32 (RW.rotr (V 4) 6) (RW.rotr (V 4) 11)) (RW.rotr (V 4) 25)) % 4294967296)) (by rfl) (by rfl) (fun w => OP.add_u rfl rfl rfl) ?_
              simp only [Act.put, List.setIfInBounds_toArray, List.set_cons_zero, List.set_cons_succ]
              refine st_val (.int .u32 (V 4)) (by rfl) (by rfl) (fun w => rfl) ?_
              simp only [Act.put, List.setIfInBounds_toArray, List.set_cons_zero, List.set_cons_succ]
              refine st_val (.slice (some ⟨g2, 0, none⟩) 8 cap2) (by rfl) (by rfl) (fun w => rfl) ?_
              simp only [Act.put, List.setIfInBounds_toArray, List.set_cons_zero, List.set_cons_succ]
              refine st_val (.pointer (some ⟨g2, 5, none⟩)) (by rfl) (by rfl) (fun w => OP.idx_w (i := 5) rfl rfl rfl (by omega)) ?_
              simp only [Act.put, List.setIfInBounds_toArray, List.set_cons_zero, List.set_cons_succ]
              refine st_op (.int .u32 (V (5))) (by rfl) (by rfl) (fun j w' hj hS => by rw [OP.load_u rfl rfl (by obtain ⟨m, rfl⟩ := hS; exact hcv.out (5) (by omega))]; exact ⟨rfl, hS⟩) ?_
              simp only [Act.put, List.setIfInBounds_toArray, List.set_cons_zero, List.set_cons_succ]
              refine st_val (.int .u32 (bits .and .u32 (V 4) (V (5)))) (by rfl) (by rfl) (fun w => OP.and_u rfl rfl rfl) ?_
              simp only [Act.put, List.setIfInBounds_toArray, List.set_cons_zero, List.set_cons_succ]
              refine st_val (.int .u32 (V 4)) (by rfl) (by rfl) (fun w => rfl) ?_
              simp only [Act.put, List.setIfInBounds_toArray, List.set_cons_zero, List.set_cons_succ]
              refine st_val (.int .u32 (bits .xor .u32 IntKind.u32.max (V 4))) (by rfl) (by rfl) (fun w => OP.not_u rfl rfl) ?_
              simp only [Act.put, List.setIfInBounds_toArray, List.set_cons_zero, List.set_cons_succ]
              refine st_val (.slice (some ⟨g2, 0, none⟩) 8 cap2) (by rfl) (by rfl) (fun w => rfl) ?_
              simp only [Act.put, List.setIfInBounds_toArray, List.set_cons_zero, List.set_cons_succ]
              refine st_val (.pointer (some ⟨g2, 6, none⟩)) (by rfl) (by rfl) (fun w => OP.idx_w (i := 6) rfl rfl rfl (by omega)) ?_
              simp only [Act.put, List.setIfInBounds_toArray, List.set_cons_zero, List.set_cons_succ]
              refine st_op (.int .u32 (V (6))) (by rfl) (by rfl) (fun j w' hj hS => by rw [OP.load_u rfl rfl (by obtain ⟨m, rfl⟩ := hS; exact hcv.out (6) (by omega))]; exact ⟨rfl, hS⟩) ?_
              simp only [Act.put, List.setIfInBounds_toArray, List.set_cons_zero, List.set_cons_succ]
              refine st_val (.int .u32 (bits .and .u32 (bits .xor .u32 IntKind.u32.max (V 4)) (V (6)))) (by rfl) (by rfl) (fun w => OP.and_u rfl rfl rfl) ?_
              simp only [Act.put, List.setIfInBounds_toArray, List.set_cons_zero, List.set_cons_succ]
              refine st_val (.int .u32 (bits .xor .u32 (bits .and .u32 (V 4) (V (5))) (bits .and .u32 (bits .xor .u32 IntKind.u32.max (V 4)) (V (6))))) (by rfl) (by rfl) (fun w => OP.xor_u rfl rfl rfl) ?_
              simp only [Act.put, List.setIfInBounds_toArray, List.set_cons_zero, List.set_cons_succ]
              refine st_val (.int .u32 (((V (7) + bits .xor .u32 (bits .xor .u32 (RW.rotr (V 4) 6) (RW.rotr (V 4) 11)) (RW.rotr (V 4) 25)) % 4294967296 + bits .xor .u32 (bits .and .u32 (V 4) (V (5))) (bits .and .u32 (bits .xor .u32 IntKind.u32.max (V 4)) (V (6)))) % 4294967296)) (by rfl) (by rfl) (fun w => OP.add_u rfl rfl rfl) ?_
              simp only [Act.put, List.setIfInBounds_toArray, List.set_cons_zero, List.set_cons_succ]
              refine st_val (.slice (some ⟨gk, 0, none⟩) 64 64) (by rfl) (by rfl) (fun w => rfl) ?_
              simp only [Act.put, List.setIfInBounds_toArray, List.set_cons_zero, List.set_cons_succ]
              refine st_val (.int .i64 ((k : Nat) : Int)) (by rfl) (by rfl) (fun w => rfl) ?_
              simp only [Act.put, List.setIfInBounds_toArray, List.set_cons_zero, List.set_cons_succ]
              refine st_val (.pointer (some ⟨gk, k, none⟩)) (by rfl) (by rfl) (fun w => OP.idx_w (i := k) rfl rfl rfl (by omega)) ?_
              simp only [Act.put, List.setIfInBounds_toArray, List.set_cons_zero, List.set_cons_succ]
              refine st_op (.int .u32 (RW.k0F (k))) (by rfl) (by rfl) (fun j w' hj hS => by rw [OP.load_u rfl rfl (by obtain ⟨m, rfl⟩ := hS; exact ckH.out (k) (by omega))]; exact ⟨rfl, hS⟩) ?_
              simp only [Act.put, List.setIfInBounds_toArray, List.set_cons_zero, List.set_cons_succ]
              refine st_val (.int .u32 ((((V (7) + bits .xor .u32 (bits .xor .u32 (RW.rotr (V 4) 6) (RW.rotr (V 4) 11)) (RW.rotr (V 4) 25)) % 4294967296 + bits .xor .u32 (bits .and .u32 (V 4) (V (5))) (bits .and .u32 (bits .xor .u32 IntKind.u32.max (V 4)) (V (6)))) % 4294967296 + RW.k0F (k)) % 4294967296)) (by rfl) (by rfl) (fun w => OP.add_u rfl rfl rfl) ?_
              simp only [Act.put, List.setIfInBounds_toArray, List.set_cons_zero, List.set_cons_succ]
              refine st_val (.slice (some ⟨g, 0, none⟩) (48 + 16) cap) (by rfl) (by rfl) (fun w => rfl) ?_
              simp only [Act.put, List.setIfInBounds_toArray, List.set_cons_zero, List.set_cons_succ]
              refine st_val (.int .i64 ((k : Nat) : Int)) (by rfl) (by rfl) (fun w => rfl) ?_
              simp only [Act.put, List.setIfInBounds_toArray, List.set_cons_zero, List.set_cons_succ]
              refine st_val (.pointer (some ⟨g, k, none⟩)) (by rfl) (by rfl) (fun w => OP.idx_w (i := k) rfl rfl rfl (by omega)) ?_
              simp only [Act.put, List.setIfInBounds_toArray, List.set_cons_zero, List.set_cons_succ]
              refine st_op (.int .u32 (RW.wf b (k))) (by rfl) (by rfl) (fun j w' hj hS => by rw [OP.load_u rfl rfl (by obtain ⟨m, rfl⟩ := hS; exact cwH.out (k) (by omega))]; exact ⟨rfl, hS⟩) ?_
              simp only [Act.put, List.setIfInBounds_toArray, List.set_cons_zero, List.set_cons_succ]
              refine st_val (.int .u32 (((((V (7) + bits .xor .u32 (bits .xor .u32 (RW.rotr (V 4) 6) (RW.rotr (V 4) 11)) (RW.rotr (V 4) 25)) % 4294967296 + bits .xor .u32 (bits .and .u32 (V 4) (V (5))) (bits .and .u32 (bits .xor .u32 IntKind.u32.max (V 4)) (V (6)))) % 4294967296 + RW.k0F (k)) % 4294967296 + RW.wf b (k)) % 4294967296)) (by rfl) (by rfl) (fun w => OP.add_u rfl rfl rfl) ?_
              simp only [Act.put, List.setIfInBounds_toArray, List.set_cons_zero, List.set_cons_succ]
              refine st_val (.int .u32 (((((V (7) + bits .xor .u32 (bits .xor .u32 (RW.rotr (V 4) 6) (RW.rotr (V 4) 11)) (RW.rotr (V 4) 25)) % 4294967296 + bits .xor .u32 (bits .and .u32 (V 4) (V (5))) (bits .and .u32 (bits .xor .u32 IntKind.u32.max (V 4)) (V (6)))) % 4294967296 + RW.k0F (k)) % 4294967296 + RW.wf b (k)) % 4294967296)) (by rfl) (by rfl) (fun w => rfl) ?_
              simp only [Act.put, List.setIfInBounds_toArray, List.set_cons_zero, List.set_cons_succ]
              refine st_nil ?_
              rintro W9 ⟨m9, rfl⟩
              go_upto_region 21 with fail
              refine gen_wR (fun W => Hid (∀ i, i < 8 → W.cell? ⟨g2, i, none⟩ = some (.int .u32 (V i))) ∧ Hid (∀ i, i < 64 → W.cell? ⟨g, i, none⟩ = some (.int .u32 (RW.wf b i))) ∧ Hid (∀ i, i < 64 → W.cell? ⟨gk, i, none⟩ = some (.int .u32 (RW.k0F i))) ∧ Below n6 w6 W ∧ n6 ≤ W.heap.size) ⟨hcv.out, cwH.out, ckH.out, below_drewK hBw, hBs⟩ ?_
              clear hcv cwH ckH hBw hBs
              rintro wr ⟨hcv, cwH, ckH, hBw, hBs⟩
              refine wp_region_staged (fun _ w' => ∃ m, w' = wr.drewN m) [] (by kernel_rfl) (by kernel_rfl) (by rfl) ⟨1, rfl⟩ ?_
              refine st_val (.int .u32 (V 0)) (by rfl) (by rfl) (fun w => rfl) ?_
              simp only [Act.put, List.setIfInBounds_toArray, List.set_cons_zero, List.set_cons_succ]
              refine st_op (.int .u32 (RW.rotr (V 0) 2)) (by rfl) (by rfl) (fun j w' hj hS => by rw [OP.call2 rfl rfl rfl rfl OP.cf_rot]; obtain ⟨m, rfl⟩ := hS; exact (rotated_any (V 0) 2 (by decide) (by decide) _).mono fun e w'' h => by obtain ⟨rfl, q, rfl⟩ := h; exact ⟨rfl, m + q, World.drewN_drewN _ _ _⟩) ?_
              simp only [Act.put, List.setIfInBounds_toArray, List.set_cons_zero, List.set_cons_succ]
              refine st_val (.int .u32 (V 0)) (by rfl) (by rfl) (fun w => rfl) ?_
              simp only [Act.put, List.setIfInBounds_toArray, List.set_cons_zero, List.set_cons_succ]
              refine st_op (.int .u32 (RW.rotr (V 0) 13)) (by rfl) (by rfl) (fun j w' hj hS => by rw [OP.call2 rfl rfl rfl rfl OP.cf_rot]; obtain ⟨m, rfl⟩ := hS; exact (rotated_any (V 0) 13 (by decide) (by decide) _).mono fun e w'' h => by obtain ⟨rfl, q, rfl⟩ := h; exact ⟨rfl, m + q, World.drewN_drewN _ _ _⟩) ?_
              simp only [Act.put, List.setIfInBounds_toArray, List.set_cons_zero, List.set_cons_succ]
              refine st_val (.int .u32 (bits .xor .u32 (RW.rotr (V 0) 2) (RW.rotr (V 0) 13))) (by rfl) (by rfl) (fun w => OP.xor_u rfl rfl rfl) ?_
              simp only [Act.put, List.setIfInBounds_toArray, List.set_cons_zero, List.set_cons_succ]
              refine st_val (.int .u32 (V 0)) (by rfl) (by rfl) (fun w => rfl) ?_
              simp only [Act.put, List.setIfInBounds_toArray, List.set_cons_zero, List.set_cons_succ]
              refine st_op (.int .u32 (RW.rotr (V 0) 22)) (by rfl) (by rfl) (fun j w' hj hS => by rw [OP.call2 rfl rfl rfl rfl OP.cf_rot]; obtain ⟨m, rfl⟩ := hS; exact (rotated_any (V 0) 22 (by decide) (by decide) _).mono fun e w'' h => by obtain ⟨rfl, q, rfl⟩ := h; exact ⟨rfl, m + q, World.drewN_drewN _ _ _⟩) ?_
              simp only [Act.put, List.setIfInBounds_toArray, List.set_cons_zero, List.set_cons_succ]
              refine st_val (.int .u32 (bits .xor .u32 (bits .xor .u32 (RW.rotr (V 0) 2) (RW.rotr (V 0) 13)) (RW.rotr (V 0) 22))) (by rfl) (by rfl) (fun w => OP.xor_u rfl rfl rfl) ?_
              simp only [Act.put, List.setIfInBounds_toArray, List.set_cons_zero, List.set_cons_succ]
              refine st_val (.int .u32 (V 0)) (by rfl) (by rfl) (fun w => rfl) ?_
              simp only [Act.put, List.setIfInBounds_toArray, List.set_cons_zero, List.set_cons_succ]
              refine st_val (.slice (some ⟨g2, 0, none⟩) 8 cap2) (by rfl) (by rfl) (fun w => rfl) ?_
              simp only [Act.put, List.setIfInBounds_toArray, List.set_cons_zero, List.set_cons_succ]
              refine st_val (.pointer (some ⟨g2, 1, none⟩)) (by rfl) (by rfl) (fun w => OP.idx_w (i := 1) rfl rfl rfl (by omega)) ?_
              simp only [Act.put, List.setIfInBounds_toArray, List.set_cons_zero, List.set_cons_succ]
              refine st_op (.int .u32 (V (1))) (by rfl) (by rfl) (fun j w' hj hS => by rw [OP.load_u rfl rfl (by obtain ⟨m, rfl⟩ := hS; exact hcv.out (1) (by omega))]; exact ⟨rfl, hS⟩) ?_
              simp only [Act.put, List.setIfInBounds_toArray, List.set_cons_zero, List.set_cons_succ]
              refine st_val (.int .u32 (bits .and .u32 (V 0) (V (1)))) (by rfl) (by rfl) (fun w => OP.and_u rfl rfl rfl) ?_
              simp only [Act.put, List.setIfInBounds_toArray, List.set_cons_zero, List.set_cons_succ]
              refine st_val (.int .u32 (V 0)) (by rfl) (by rfl) (fun w => rfl) ?_
              simp only [Act.put, List.setIfInBounds_toArray, List.set_cons_zero, List.set_cons_succ]
              refine st_val (.slice (some ⟨g2, 0, none⟩) 8 cap2) (by rfl) (by rfl) (fun w => rfl) ?_
              simp only [Act.put, List.setIfInBounds_toArray, List.set_cons_zero, List.set_cons_succ]
              refine st_val (.pointer (some ⟨g2, 2, none⟩)) (by rfl) (by rfl) (fun w => OP.idx_w (i := 2) rfl rfl rfl (by omega)) ?_
              simp only [Act.put, List.setIfInBounds_toArray, List.set_cons_zero, List.set_cons_succ]
              refine st_op (.int .u32 (V (2))) (by rfl) (by rfl) (fun j w' hj hS => by rw [OP.load_u rfl rfl (by obtain ⟨m, rfl⟩ := hS; exact hcv.out (2) (by omega))]; exact ⟨rfl, hS⟩) ?_
              simp only [Act.put, List.setIfInBounds_toArray, List.set_cons_zero, List.set_cons_succ]
              refine st_val (.int .u32 (bits .and .u32 (V 0) (V (2)))) (by rfl) (by rfl) (fun w => OP.and_u rfl rfl rfl) ?_
              simp only [Act.put, List.setIfInBounds_toArray, List.set_cons_zero, List.set_cons_succ]
              refine st_val (.int .u32 (bits .xor .u32 (bits .and .u32 (V 0) (V (1))) (bits .and .u32 (V 0) (V (2))))) (by rfl) (by rfl) (fun w => OP.xor_u rfl rfl rfl) ?_
              simp only [Act.put, List.setIfInBounds_toArray, List.set_cons_zero, List.set_cons_succ]
              refine st_val (.slice (some ⟨g2, 0, none⟩) 8 cap2) (by rfl) (by rfl) (fun w => rfl) ?_
              simp only [Act.put, List.setIfInBounds_toArray, List.set_cons_zero, List.set_cons_succ]
              refine st_val (.pointer (some ⟨g2, 1, none⟩)) (by rfl) (by rfl) (fun w => OP.idx_w (i := 1) rfl rfl rfl (by omega)) ?_
              simp only [Act.put, List.setIfInBounds_toArray, List.set_cons_zero, List.set_cons_succ]
              refine st_op (.int .u32 (V (1))) (by rfl) (by rfl) (fun j w' hj hS => by rw [OP.load_u rfl rfl (by obtain ⟨m, rfl⟩ := hS; exact hcv.out (1) (by omega))]; exact ⟨rfl, hS⟩) ?_
              simp only [Act.put, List.setIfInBounds_toArray, List.set_cons_zero, List.set_cons_succ]
              refine st_val (.slice (some ⟨g2, 0, none⟩) 8 cap2) (by rfl) (by rfl) (fun w => rfl) ?_
              simp only [Act.put, List.setIfInBounds_toArray, List.set_cons_zero, List.set_cons_succ]
              refine st_val (.pointer (some ⟨g2, 2, none⟩)) (by rfl) (by rfl) (fun w => OP.idx_w (i := 2) rfl rfl rfl (by omega)) ?_
              simp only [Act.put, List.setIfInBounds_toArray, List.set_cons_zero, List.set_cons_succ]
              refine st_op (.int .u32 (V (2))) (by rfl) (by rfl) (fun j w' hj hS => by rw [OP.load_u rfl rfl (by obtain ⟨m, rfl⟩ := hS; exact hcv.out (2) (by omega))]; exact ⟨rfl, hS⟩) ?_
              simp only [Act.put, List.setIfInBounds_toArray, List.set_cons_zero, List.set_cons_succ]
              refine st_val (.int .u32 (bits .and .u32 (V (1)) (V (2)))) (by rfl) (by rfl) (fun w => OP.and_u rfl rfl rfl) ?_
              simp only [Act.put, List.setIfInBounds_toArray, List.set_cons_zero, List.set_cons_succ]
              refine st_val (.int .u32 (bits .xor .u32 (bits .xor .u32 (bits .and .u32 (V 0) (V (1))) (bits .and .u32 (V 0) (V (2)))) (bits .and .u32 (V (1)) (V (2))))) (by rfl) (by rfl) (fun w => OP.xor_u rfl rfl rfl) ?_
              simp only [Act.put, List.setIfInBounds_toArray, List.set_cons_zero, List.set_cons_succ]
              refine st_val (.int .u32 ((bits .xor .u32 (bits .xor .u32 (RW.rotr (V 0) 2) (RW.rotr (V 0) 13)) (RW.rotr (V 0) 22) + bits .xor .u32 (bits .xor .u32 (bits .and .u32 (V 0) (V (1))) (bits .and .u32 (V 0) (V (2)))) (bits .and .u32 (V (1)) (V (2)))) % 4294967296)) (by rfl) (by rfl) (fun w => OP.add_u rfl rfl rfl) ?_
              simp only [Act.put, List.setIfInBounds_toArray, List.set_cons_zero, List.set_cons_succ]
              refine st_val (.int .u32 ((bits .xor .u32 (bits .xor .u32 (RW.rotr (V 0) 2) (RW.rotr (V 0) 13)) (RW.rotr (V 0) 22) + bits .xor .u32 (bits .xor .u32 (bits .and .u32 (V 0) (V (1))) (bits .and .u32 (V 0) (V (2)))) (bits .and .u32 (V (1)) (V (2)))) % 4294967296)) (by rfl) (by rfl) (fun w => rfl) ?_
              simp only [Act.put, List.setIfInBounds_toArray, List.set_cons_zero, List.set_cons_succ]
              refine st_nil ?_
              rintro W9 ⟨m9, rfl⟩
              go_upto_region 22 with fail
              refine gen_wR (fun W => Hid (∀ i, i < 8 → W.cell? ⟨g2, i, none⟩ = some (.int .u32 (V i))) ∧ Hid (∀ i, i < 64 → W.cell? ⟨g, i, none⟩ = some (.int .u32 (RW.wf b i))) ∧ Hid (∀ i, i < 64 → W.cell? ⟨gk, i, none⟩ = some (.int .u32 (RW.k0F i))) ∧ Below n6 w6 W ∧ n6 ≤ W.heap.size) ⟨hcv.out, cwH.out, ckH.out, below_drewK hBw, hBs⟩ ?_
              clear hcv cwH ckH hBw hBs
              rintro wr ⟨hcv, cwH, ckH, hBw, hBs⟩
              obtain ⟨nb, hnb⟩ : ∃ n, n = wr.heap.size := ⟨_, rfl⟩
              refine wp_region_staged (st3 wr.drew (wr.drew.alloc (.cells #[.int .u32 ((((((V (7) + bits .xor .u32 (bits .xor .u32 (RW.rotr (V 4) 6) (RW.rotr (V 4) 11)) (RW.rotr (V 4) 25)) % 4294967296 + bits .xor .u32 (bits .and .u32 (V 4) (V (5))) (bits .and .u32 (bits .xor .u32 IntKind.u32.max (V 4)) (V (6)))) % 4294967296 + RW.k0F (k)) % 4294967296 + RW.wf b (k)) % 4294967296 + (bits .xor .u32 (bits .xor .u32 (RW.rotr (V 0) 2) (RW.rotr (V 0) 13)) (RW.rotr (V 0) 22) + bits .xor .u32 (bits .xor .u32 (bits .and .u32 (V 0) (V (1))) (bits .and .u32 (V 0) (V (2)))) (bits .and .u32 (V (1)) (V (2)))) % 4294967296) % 4294967296), .int .u32 (V 0), .int .u32 (V (1)), .int .u32 (V (2)), .int .u32 ((V (3) + ((((V (7) + bits .xor .u32 (bits .xor .u32 (RW.rotr (V 4) 6) (RW.rotr (V 4) 11)) (RW.rotr (V 4) 25)) % 4294967296 + bits .xor .u32 (bits .and .u32 (V 4) (V (5))) (bits .and .u32 (bits .xor .u32 IntKind.u32.max (V 4)) (V (6)))) % 4294967296 + RW.k0F (k)) % 4294967296 + RW.wf b (k)) % 4294967296) % 4294967296), .int .u32 (V 4), .int .u32 (V (5)), .int .u32 (V (6))] 119)) wr) [22] (by kernel_rfl) (by kernel_rfl) (by rfl) rfl ?_
              refine st_val (.int .u32 (((((V (7) + bits .xor .u32 (bits .xor .u32 (RW.rotr (V 4) 6) (RW.rotr (V 4) 11)) (RW.rotr (V 4) 25)) % 4294967296 + bits .xor .u32 (bits .and .u32 (V 4) (V (5))) (bits .and .u32 (bits .xor .u32 IntKind.u32.max (V 4)) (V (6)))) % 4294967296 + RW.k0F (k)) % 4294967296 + RW.wf b (k)) % 4294967296)) (by rfl) (by rfl) (fun w => rfl) ?_
              simp only [Act.put, List.setIfInBounds_toArray, List.set_cons_zero, List.set_cons_succ]
              refine st_val (.int .u32 ((bits .xor .u32 (bits .xor .u32 (RW.rotr (V 0) 2) (RW.rotr (V 0) 13)) (RW.rotr (V 0) 22) + bits .xor .u32 (bits .xor .u32 (bits .and .u32 (V 0) (V (1))) (bits .and .u32 (V 0) (V (2)))) (bits .and .u32 (V (1)) (V (2)))) % 4294967296)) (by rfl) (by rfl) (fun w => rfl) ?_
              simp only [Act.put, List.setIfInBounds_toArray, List.set_cons_zero, List.set_cons_succ]
              refine st_val (.int .u32 ((((((V (7) + bits .xor .u32 (bits .xor .u32 (RW.rotr (V 4) 6) (RW.rotr (V 4) 11)) (RW.rotr (V 4) 25)) % 4294967296 + bits .xor .u32 (bits .and .u32 (V 4) (V (5))) (bits .and .u32 (bits .xor .u32 IntKind.u32.max (V 4)) (V (6)))) % 4294967296 + RW.k0F (k)) % 4294967296 + RW.wf b (k)) % 4294967296 + (bits .xor .u32 (bits .xor .u32 (RW.rotr (V 0) 2) (RW.rotr (V 0) 13)) (RW.rotr (V 0) 22) + bits .xor .u32 (bits .xor .u32 (bits .and .u32 (V 0) (V (1))) (bits .and .u32 (V 0) (V (2)))) (bits .and .u32 (V (1)) (V (2)))) % 4294967296) % 4294967296)) (by rfl) (by rfl) (fun w => OP.add_u rfl rfl rfl) ?_
              simp only [Act.put, List.setIfInBounds_toArray, List.set_cons_zero, List.set_cons_succ]
              refine st_val (.int .u32 (V 0)) (by rfl) (by rfl) (fun w => rfl) ?_
              simp only [Act.put, List.setIfInBounds_toArray, List.set_cons_zero, List.set_cons_succ]
              refine st_val (.slice (some ⟨g2, 0, none⟩) 8 cap2) (by rfl) (by rfl) (fun w => rfl) ?_
              simp only [Act.put, List.setIfInBounds_toArray, List.set_cons_zero, List.set_cons_succ]
              refine st_val (.pointer (some ⟨g2, 1, none⟩)) (by rfl) (by rfl) (fun w => OP.idx_w (i := 1) rfl rfl rfl (by omega)) ?_
              simp only [Act.put, List.setIfInBounds_toArray, List.set_cons_zero, List.set_cons_succ]
              refine st_op_in 0 0 (.int .u32 (V (1))) (by rfl) (by rfl) (.inl rfl) (.inr (by decide +kernel)) (fun j w' _ hj hS => by rw [OP.load_u rfl rfl (by have hS := st3_z hS hj; subst hS; exact hcv.out (1) (by omega))]; exact ⟨rfl, hS⟩) ?_
              simp only [Act.put, List.setIfInBounds_toArray, List.set_cons_zero, List.set_cons_succ]
              refine st_val (.slice (some ⟨g2, 0, none⟩) 8 cap2) (by rfl) (by rfl) (fun w => rfl) ?_
              simp only [Act.put, List.setIfInBounds_toArray, List.set_cons_zero, List.set_cons_succ]
              refine st_val (.pointer (some ⟨g2, 2, none⟩)) (by rfl) (by rfl) (fun w => OP.idx_w (i := 2) rfl rfl rfl (by omega)) ?_
              simp only [Act.put, List.setIfInBounds_toArray, List.set_cons_zero, List.set_cons_succ]
              refine st_op_in 0 0 (.int .u32 (V (2))) (by rfl) (by rfl) (.inl rfl) (.inr (by decide +kernel)) (fun j w' _ hj hS => by rw [OP.load_u rfl rfl (by have hS := st3_z hS hj; subst hS; exact hcv.out (2) (by omega))]; exact ⟨rfl, hS⟩) ?_
              simp only [Act.put, List.setIfInBounds_toArray, List.set_cons_zero, List.set_cons_succ]
              refine st_val (.slice (some ⟨g2, 0, none⟩) 8 cap2) (by rfl) (by rfl) (fun w => rfl) ?_
              simp only [Act.put, List.setIfInBounds_toArray, List.set_cons_zero, List.set_cons_succ]
              refine st_val (.pointer (some ⟨g2, 3, none⟩)) (by rfl) (by rfl) (fun w => OP.idx_w (i := 3) rfl rfl rfl (by omega)) ?_
              simp only [Act.put, List.setIfInBounds_toArray, List.set_cons_zero, List.set_cons_succ]
              refine st_op_in 0 0 (.int .u32 (V (3))) (by rfl) (by rfl) (.inl rfl) (.inr (by decide +kernel)) (fun j w' _ hj hS => by rw [OP.load_u rfl rfl (by have hS := st3_z hS hj; subst hS; exact hcv.out (3) (by omega))]; exact ⟨rfl, hS⟩) ?_
              simp only [Act.put, List.setIfInBounds_toArray, List.set_cons_zero, List.set_cons_succ]
              refine st_val (.int .u32 (((((V (7) + bits .xor .u32 (bits .xor .u32 (RW.rotr (V 4) 6) (RW.rotr (V 4) 11)) (RW.rotr (V 4) 25)) % 4294967296 + bits .xor .u32 (bits .and .u32 (V 4) (V (5))) (bits .and .u32 (bits .xor .u32 IntKind.u32.max (V 4)) (V (6)))) % 4294967296 + RW.k0F (k)) % 4294967296 + RW.wf b (k)) % 4294967296)) (by rfl) (by rfl) (fun w => rfl) ?_
              simp only [Act.put, List.setIfInBounds_toArray, List.set_cons_zero, List.set_cons_succ]
              refine st_val (.int .u32 ((V (3) + ((((V (7) + bits .xor .u32 (bits .xor .u32 (RW.rotr (V 4) 6) (RW.rotr (V 4) 11)) (RW.rotr (V 4) 25)) % 4294967296 + bits .xor .u32 (bits .and .u32 (V 4) (V (5))) (bits .and .u32 (bits .xor .u32 IntKind.u32.max (V 4)) (V (6)))) % 4294967296 + RW.k0F (k)) % 4294967296 + RW.wf b (k)) % 4294967296) % 4294967296)) (by rfl) (by rfl) (fun w => OP.add_u rfl rfl rfl) ?_
              simp only [Act.put, List.setIfInBounds_toArray, List.set_cons_zero, List.set_cons_succ]
              refine st_val (.int .u32 (V 4)) (by rfl) (by rfl) (fun w => rfl) ?_
              simp only [Act.put, List.setIfInBounds_toArray, List.set_cons_zero, List.set_cons_succ]
              refine st_val (.slice (some ⟨g2, 0, none⟩) 8 cap2) (by rfl) (by rfl) (fun w => rfl) ?_
              simp only [Act.put, List.setIfInBounds_toArray, List.set_cons_zero, List.set_cons_succ]
              refine st_val (.pointer (some ⟨g2, 5, none⟩)) (by rfl) (by rfl) (fun w => OP.idx_w (i := 5) rfl rfl rfl (by omega)) ?_
              simp only [Act.put, List.setIfInBounds_toArray, List.set_cons_zero, List.set_cons_succ]
              refine st_op_in 0 0 (.int .u32 (V (5))) (by rfl) (by rfl) (.inl rfl) (.inr (by decide +kernel)) (fun j w' _ hj hS => by rw [OP.load_u rfl rfl (by have hS := st3_z hS hj; subst hS; exact hcv.out (5) (by omega))]; exact ⟨rfl, hS⟩) ?_
              simp only [Act.put, List.setIfInBounds_toArray, List.set_cons_zero, List.set_cons_succ]
              refine st_val (.slice (some ⟨g2, 0, none⟩) 8 cap2) (by rfl) (by rfl) (fun w => rfl) ?_
              simp only [Act.put, List.setIfInBounds_toArray, List.set_cons_zero, List.set_cons_succ]
              refine st_val (.pointer (some ⟨g2, 6, none⟩)) (by rfl) (by rfl) (fun w => OP.idx_w (i := 6) rfl rfl rfl (by omega)) ?_
              simp only [Act.put, List.setIfInBounds_toArray, List.set_cons_zero, List.set_cons_succ]
              refine st_op_in 0 0 (.int .u32 (V (6))) (by rfl) (by rfl) (.inl rfl) (.inr (by decide +kernel)) (fun j w' _ hj hS => by rw [OP.load_u rfl rfl (by have hS := st3_z hS hj; subst hS; exact hcv.out (6) (by omega))]; exact ⟨rfl, hS⟩) ?_
              simp only [Act.put, List.setIfInBounds_toArray, List.set_cons_zero, List.set_cons_succ]
              refine st_step 0 (.slice (some ⟨nb, 0, none⟩) 8 8) (by rfl) (by rfl) (by decide +kernel) (fun w' hS => by have hS := st3_0 hS; subst hS; rw [OP.build_w8 rfl rfl rfl rfl rfl rfl rfl rfl rfl]; exact ⟨by rw [hnb]; rfl, rfl⟩) ?_
              simp only [Act.put, List.setIfInBounds_toArray, List.set_cons_zero, List.set_cons_succ]
              refine st_val (.slice (some ⟨nb, 0, none⟩) 8 8) (by rfl) (by rfl) (fun w => rfl) ?_
              simp only [Act.put, List.setIfInBounds_toArray, List.set_cons_zero, List.set_cons_succ]
              refine st_nil ?_
              intro W9 hW9
              replace hW9 : W9 = wr.drew.alloc (.cells #[.int .u32 ((((((V (7) + bits .xor .u32 (bits .xor .u32 (RW.rotr (V 4) 6) (RW.rotr (V 4) 11)) (RW.rotr (V 4) 25)) % 4294967296 + bits .xor .u32 (bits .and .u32 (V 4) (V (5))) (bits .and .u32 (bits .xor .u32 IntKind.u32.max (V 4)) (V (6)))) % 4294967296 + RW.k0F (k)) % 4294967296 + RW.wf b (k)) % 4294967296 + (bits .xor .u32 (bits .xor .u32 (RW.rotr (V 0) 2) (RW.rotr (V 0) 13)) (RW.rotr (V 0) 22) + bits .xor .u32 (bits .xor .u32 (bits .and .u32 (V 0) (V (1))) (bits .and .u32 (V 0) (V (2)))) (bits .and .u32 (V (1)) (V (2)))) % 4294967296) % 4294967296), .int .u32 (V 0), .int .u32 (V (1)), .int .u32 (V (2)), .int .u32 ((V (3) + ((((V (7) + bits .xor .u32 (bits .xor .u32 (RW.rotr (V 4) 6) (RW.rotr (V 4) 11)) (RW.rotr (V 4) 25)) % 4294967296 + bits .xor .u32 (bits .and .u32 (V 4) (V (5))) (bits .and .u32 (bits .xor .u32 IntKind.u32.max (V 4)) (V (6)))) % 4294967296 + RW.k0F (k)) % 4294967296 + RW.wf b (k)) % 4294967296) % 4294967296), .int .u32 (V 4), .int .u32 (V (5)), .int .u32 (V (6))] 119) := hW9
              have hnew : Hid (∀ i, i < 8 → W9.cell? ⟨nb, i, none⟩ = some (.int .u32 (RW.comp H RW.k0F (RW.wf b) (k + 1) i))) := by
                intro i hi
                rw [hW9, World.cell?_alloc_at _ _ _ _ (show nb = wr.drew.heap.size from hnb), hVsH.out]
                have e0 : RW.vstep V (RW.k0F k) (RW.wf b k) 0 = (((((V (7) + bits .xor .u32 (bits .xor .u32 (RW.rotr (V 4) 6) (RW.rotr (V 4) 11)) (RW.rotr (V 4) 25)) % 4294967296 + bits .xor .u32 (bits .and .u32 (V 4) (V (5))) (bits .and .u32 (bits .xor .u32 IntKind.u32.max (V 4)) (V (6)))) % 4294967296 + RW.k0F (k)) % 4294967296 + RW.wf b (k)) % 4294967296 + (bits .xor .u32 (bits .xor .u32 (RW.rotr (V 0) 2) (RW.rotr (V 0) 13)) (RW.rotr (V 0) 22) + bits .xor .u32 (bits .xor .u32 (bits .and .u32 (V 0) (V (1))) (bits .and .u32 (V 0) (V (2)))) (bits .and .u32 (V (1)) (V (2)))) % 4294967296) % 4294967296 := by
                  show (RW.tOf V (RW.k0F k) (RW.wf b k) + RW.uOf V) % 4294967296 = _
                  unfold RW.tOf RW.uOf
                  rw [RW.mix3R, RW.mix3R]
                  omega
                have e4 : RW.vstep V (RW.k0F k) (RW.wf b k) 4 = (V (3) + ((((V (7) + bits .xor .u32 (bits .xor .u32 (RW.rotr (V 4) 6) (RW.rotr (V 4) 11)) (RW.rotr (V 4) 25)) % 4294967296 + bits .xor .u32 (bits .and .u32 (V 4) (V (5))) (bits .and .u32 (bits .xor .u32 IntKind.u32.max (V 4)) (V (6)))) % 4294967296 + RW.k0F (k)) % 4294967296 + RW.wf b (k)) % 4294967296) % 4294967296 := by
                  show (V 3 + RW.tOf V (RW.k0F k) (RW.wf b k)) % 4294967296 = _
                  unfold RW.tOf
                  rw [RW.mix3R]
                  omega
                match i, hi with
                | 0, _ => rw [e0]; rfl
                | 1, _ => rfl
                | 2, _ => rfl
                | 3, _ => rfl
                | 4, _ => rw [e4]; rfl
                | 5, _ => rfl
                | 6, _ => rfl
                | 7, _ => rfl
              have hB9 : Below n6 w6 W9 ∧ n6 ≤ W9.heap.size := by
                rw [hW9]
                refine ⟨hBw.drew.alloc (by exact hBs) _, ?_⟩
                simp
                exact Nat.le_succ_of_le hBs
              clear hW9 hcv cwH ckH hBw hBs hVsH hnb
              go_wp2
              go_roundw
              case rel => exact ⟨k + 1, nb, 8, by omega, by go_num, rfl, hnew, hB9.1, hB9.2⟩
              case measure => simp [intOf]; omega
            · obtain rfl : k = 64 := by omega
              have hB7 : Below B w wr := hB6.trans (hBw.mono (by have := hl6H.out; have := hn6H.out; omega))
              have hHr : ∀ i, i < 8 → wr.cell? ⟨gh, i, none⟩ = some (.int .u32 (H i)) := fun i hi => (World.cell?_of_block (a := ⟨gh, i, none⟩) (hB7.block _ lh)).trans (cHH.out i hi)
              have hHrH := hide hHr
              have hBB : B ≤ n6 := by have := hl6H.out; have := hn6H.out; omega
              have hg2l : g2 < wr.heap.size := World.block_lt_of_cell? _ _ (hcv.out 0 (by decide))
              have hghl : gh < wr.heap.size := World.block_lt_of_cell? _ _ (hHrH.out 0 (by decide))
              clear hHr hk hlt c6H cw6H ck6H hH6H hl6H hn6H hB6 hBw
              obtain ⟨n7, hn7⟩ : ∃ n, n = wr.heap.size := ⟨_, rfl⟩
              have hn7H := hide hn7
              clear hn7
              have hcv7 := hcv
              obtain ⟨w7, hw7⟩ : ∃ x, x = wr := ⟨_, rfl⟩
              have hw7H := hide hw7
              clear hw7
              go_wp2
              go_loopw [17, 18] (fun v i wr => ∃ k : Nat, k ≤ 8 ∧ i = .int .i64 k ∧ wr.ownsRow n7 119 1 v k (RW.wordsU (RW.hnew H RW.k0F (RW.wf b)) k) ∧ Below n7 w7 wr ∧ n7 ≤ wr.heap.size) (fun _ i _ => 8 - (intOf i).toNat)
              case atStart => exact ⟨0, by omega, rfl, World.ownsRow_nil _ _ _ _, by rw [hw7H.out]; exact Below.refl _ _, by rw [hn7H.out]; exact Nat.le_refl _⟩
              case round =>
                rw [← hw7H.out] at hcv hHrH hg2l hghl hB7 hn7H
                obtain ⟨k, hk, rfl, hown, hBw, hBs⟩ := hrel
                by_cases hlt : k < 8
                · have cvr : wr.drew.cell? ⟨g2, k, none⟩ = some (.int .u32 (RW.comp H RW.k0F (RW.wf b) 64 k)) := (World.cell?_of_block (a := ⟨g2, k, none⟩) (hBw.block _ (show g2 < n7 by have := hn7H.out; omega))).trans (hcv.out k hlt)
                  have chr : wr.drew.cell? ⟨gh, k, none⟩ = some (.int .u32 (H k)) := (World.cell?_of_block (a := ⟨gh, k, none⟩) (hBw.block _ (show gh < n7 by have := hn7H.out; omega))).trans (hHrH.out k hlt)
                  have cvrH := hide cvr; have chrH := hide chr
                  clear cvr chr
                  go_upto_region 27 with fail
                  have hx : (H k + RW.comp H RW.k0F (RW.wf b) 64 k) % 4294967296 = RW.hnew H RW.k0F (RW.wf b) k := rfl
                  obtain ⟨nb, hnb⟩ : ∃ n, n = wr.heap.size := ⟨_, rfl⟩
                  obtain ⟨v', w3, happ, hown', hB3, hs3⟩ := app_word hown hBw hBs (by omega) ((H k + RW.comp H RW.k0F (RW.wf b) 64 k) % 4294967296)
                  rw [RW.wordsU_succ _ _ _ hx] at hown'
                  rw [← hnb] at happ
                  refine wp_region_staged (st3 wr.drew (wr.drew.alloc (.cells #[.int .u32 ((H k + RW.comp H RW.k0F (RW.wf b) 64 k) % 4294967296)] 119)) w3) [10, 11] (by kernel_rfl) (by kernel_rfl) (by rfl) rfl ?_
                  refine st_val (_) (by rfl) (by rfl) (fun w => rfl) ?_
                  simp only [Act.put, List.setIfInBounds_toArray, List.set_cons_zero, List.set_cons_succ]
                  refine st_val (.slice (some ⟨gh, 0, none⟩) 8 ch) (by rfl) (by rfl) (fun w => rfl) ?_
                  simp only [Act.put, List.setIfInBounds_toArray, List.set_cons_zero, List.set_cons_succ]
                  refine st_val (.int .i64 ((k : Nat) : Int)) (by rfl) (by rfl) (fun w => rfl) ?_
                  simp only [Act.put, List.setIfInBounds_toArray, List.set_cons_zero, List.set_cons_succ]
                  refine st_val (.pointer (some ⟨gh, k, none⟩)) (by rfl) (by rfl) (fun w => OP.idx_w (i := k) rfl rfl rfl (by omega)) ?_
                  simp only [Act.put, List.setIfInBounds_toArray, List.set_cons_zero, List.set_cons_succ]
                  refine st_op_in 0 0 (.int .u32 (H k)) (by rfl) (by rfl) (.inl rfl) (.inr (by decide +kernel)) (fun j w' _ hj hS => by rw [OP.load_u rfl rfl (by have hS := st3_z hS hj; subst hS; exact chrH.out)]; exact ⟨rfl, hS⟩) ?_
                  simp only [Act.put, List.setIfInBounds_toArray, List.set_cons_zero, List.set_cons_succ]
                  refine st_val (.slice (some ⟨g2, 0, none⟩) 8 cap2) (by rfl) (by rfl) (fun w => rfl) ?_
                  simp only [Act.put, List.setIfInBounds_toArray, List.set_cons_zero, List.set_cons_succ]
                  refine st_val (.int .i64 ((k : Nat) : Int)) (by rfl) (by rfl) (fun w => rfl) ?_
                  simp only [Act.put, List.setIfInBounds_toArray, List.set_cons_zero, List.set_cons_succ]
                  refine st_val (.pointer (some ⟨g2, k, none⟩)) (by rfl) (by rfl) (fun w => OP.idx_w (i := k) rfl rfl rfl (by omega)) ?_
                  simp only [Act.put, List.setIfInBounds_toArray, List.set_cons_zero, List.set_cons_succ]
                  refine st_op_in 0 0 (.int .u32 (RW.comp H RW.k0F (RW.wf b) 64 k)) (by rfl) (by rfl) (.inl rfl) (.inr (by decide +kernel)) (fun j w' _ hj hS => by rw [OP.load_u rfl rfl (by have hS := st3_z hS hj; subst hS; exact cvrH.out)]; exact ⟨rfl, hS⟩) ?_
                  simp only [Act.put, List.setIfInBounds_toArray, List.set_cons_zero, List.set_cons_succ]
                  refine st_val (.int .u32 ((H k + RW.comp H RW.k0F (RW.wf b) 64 k) % 4294967296)) (by rfl) (by rfl) (fun w => OP.add_u rfl rfl rfl) ?_
                  simp only [Act.put, List.setIfInBounds_toArray, List.set_cons_zero, List.set_cons_succ]
                  refine st_step 0 (.slice (some ⟨nb, 0, none⟩) 1 1) (by rfl) (by rfl) (by decide +kernel) (fun w' hS => by have hS := st3_0 hS; subst hS; rw [OP.build_w rfl rfl]; exact ⟨by rw [hnb]; rfl, rfl⟩) ?_
                  simp only [Act.put, List.setIfInBounds_toArray, List.set_cons_zero, List.set_cons_succ]
                  refine st_step 1 (v') (by rfl) (by rfl) (by decide +kernel) (fun w' hS => by have hS := st3_1 hS; subst hS; rw [OP.app rfl rfl rfl happ]; exact ⟨rfl, rfl⟩) ?_
                  simp only [Act.put, List.setIfInBounds_toArray, List.set_cons_zero, List.set_cons_succ]
                  refine st_val (v') (by rfl) (by rfl) (fun w => rfl) ?_
                  simp only [Act.put, List.setIfInBounds_toArray, List.set_cons_zero, List.set_cons_succ]
                  refine st_nil ?_
                  intro W9 hW9
                  replace hW9 : W9 = w3 := hW9
                  subst hW9
                  clear happ hx cvrH chrH hown hBw hBs hnb
                  go_wp2
                  go_roundw
                  case rel => exact ⟨k + 1, by omega, by go_num, hown', hB3, hs3⟩
                  case measure => simp [intOf]; omega
                · obtain rfl : k = 8 := by omega
                  have hfin : Below B w wr := hB7.trans (hBw.mono (by have := hn7H.out; have := hB7.size; have := hwB.out; omega))
                  have hBn : B ≤ n7 := by have := hn7H.out; have := hB7.size; have := hwB.out; omega
                  go_wp2
                  go_ret
                  exact ⟨_, rfl, by rw [← hBH.out]; exact owns_mono hown hBn, by rw [← hBH.out]; exact hfin⟩
end Go.Proofs.YtllbphanfahkkaaGreatDoor

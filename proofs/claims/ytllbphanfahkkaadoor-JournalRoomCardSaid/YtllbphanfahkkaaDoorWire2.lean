/-
  The walks of the reference's package for numbers and strings (royaltyref01) and of wire.PutString; PutInt out of range: what each returns; old memory as it was.
-/
import Derived.Test.YtllbphanfahkkaaDoorWire
namespace Go.Proofs.YtllbphanfahkkaaDoor
open Go.RowKit Go.Shelf
namespace RW
def val : List UInt8 → Nat
  | [] => 0
  | b :: l => b.toNat % 128 + 128 * val l
theorem val_snoc (l : List UInt8) (b : UInt8) : val (l ++ [b]) = val l + (b.toNat % 128) * 2 ^ (7 * l.length) := by
  induction l with
  | nil => simp [val]
  | cons c l ih =>
    simp only [List.cons_append, val, ih, List.length_cons]
    rw [Nat.mul_add, show 7 * (l.length + 1) = 7 * l.length + 7 by omega, Nat.pow_add, ← Nat.mul_assoc, ← Nat.mul_assoc]
    have : 128 * (b.toNat % 128) * 2 ^ (7 * l.length) = (b.toNat % 128) * 2 ^ (7 * l.length) * 2 ^ 7 := by rw [Nat.mul_comm 128, Nat.mul_assoc, Nat.mul_comm 128, ← Nat.mul_assoc]
    omega
theorem val_pos (l : List UInt8) (b : UInt8) (hb : b.toNat < 128) (h : b.toNat ≠ 0) : 0 < val (l ++ [b]) := by
  induction l with
  | nil => simp [val]; omega
  | cons c l ih => simp only [List.cons_append, val]; omega
theorem ofNat_toNat' (b : UInt8) : UInt8.ofNat b.toNat = b := by simp
theorem enc_val (f : Nat) : ∀ (l : List UInt8) (b : UInt8), l.length < f → (∀ c ∈ l, 128 ≤ c.toNat) → b.toNat < 128 → (encF f (val (l ++ [b])) = l ++ [b] ↔ ¬ (b.toNat = 0 ∧ 0 < l.length)) := by
  induction f with
  | zero => intro l b h; omega
  | succ f ih =>
    intro l b hlen hall hb
    cases l with
    | nil =>
      have : val ([] ++ [b]) = b.toNat := by simp [val]; omega
      rw [this, encF, if_pos hb]; simp
    | cons c l =>
      have hc := hall c (by simp)
      have hcl := c.toNat_lt
      have hv : val (c :: l ++ [b]) = c.toNat % 128 + 128 * val (l ++ [b]) := rfl
      rw [hv, encF]
      by_cases h0 : val (l ++ [b]) = 0
      · rw [h0, if_pos (by omega)]
        have hb0 : b.toNat = 0 := by
          apply Classical.byContradiction; intro h
          have := val_pos l b hb h; omega
        constructor
        · intro h; have := congrArg List.length h; simp at this
        · intro h; exact absurd ⟨hb0, by simp⟩ h
      · rw [if_neg (by omega)]
        have e1 : (c.toNat % 128 + 128 * val (l ++ [b])) % 128 + 128 = c.toNat := by omega
        have e2 : (c.toNat % 128 + 128 * val (l ++ [b])) / 128 = val (l ++ [b]) := by omega
        rw [e1, e2, ofNat_toNat', List.cons_append, List.cons_inj_right, ih l b (by simp at hlen; omega) (fun x hx => hall x (by simp [hx])) hb]
        constructor
        · rintro h ⟨h1, _⟩
          refine h ⟨h1, ?_⟩
          cases l with
          | nil => exact absurd (by simp [val, h1]) h0
          | cons => simp
        · rintro h ⟨h1, h2⟩
          exact h ⟨h1, by simp⟩
theorem zz_uz (z : Nat) : zz (uz z) = z := by unfold zz uz; split <;> split <;> omega
theorem take_snoc (s : ByteArray) (a k : Nat) (h : a + k < s.size) : (s.data.toList.drop a).take (k + 1) = (s.data.toList.drop a).take k ++ [s[a + k]] := by
  rw [List.take_succ_eq_append_getElem (by simp; omega)]
  simp; rfl
theorem encF_succ (f z : Nat) (h : z < 128) : encF (f + 1) z = [UInt8.ofNat z] := by rw [encF, if_pos h]
theorem encF_hi (f z : Nat) (h : ¬ z < 128) : encF (f + 1) z = UInt8.ofNat (z % 128 + 128) :: encF f (z / 128) := by rw [encF, if_neg h]
theorem bytesV_snoc (l : List UInt8) (n : Nat) (h : n < 256) : bytesV l ++ [.int .u8 (n : Int)] = bytesV (l ++ [UInt8.ofNat n]) := by
  simp [bytesV]; omega
theorem own_string {w : World} {base : Nat} {e : TypeId} {g n cap : Nat} {l : List UInt8} (h : w.ownsRow base e 1 (.slice (some ⟨g, 0, none⟩) n cap) n (bytesV l)) {P : Program} (src dst : TypeId)
    (hs : P.underlying src = some (.slice e)) (he : P.underlying e = some (.int .u8)) (hd : P.underlying dst = some .string) :
    (convert src dst (.slice (some ⟨g, 0, none⟩) n cap)).run P w = .ok (.string ⟨l.toArray⟩) w := by
  have hn : l.length = n := by have := h.1; simpa [bytesV] using this
  have := run_convert_bytes_back (P := P) w src dst e ⟨g, 0, none⟩ cap l hs he hd (own_cells h)
  rw [hn] at this; exact this
end RW


/-- wire.PutInt, out of range -/
theorem putint_out (x : Int) (hx : x < -4611686018427387903 ∨ 4611686018427387903 < x) (w : World) :
    Calls Tryd.prog 65 #[.int .i64 x] w fun e w' => e = .returned (.tuple #[.string ⟨#[]⟩, .int .i64 10]) ∧ w = w' := by
  by_cases h1 : x < -4611686018427387903
  · go_enter Tryd.func65, Tryd.ntmps65
    go_wp2
    go_ret2
    exact ⟨rfl, rfl⟩
  · have h2 : 4611686018427387903 < x := by omega
    go_enter Tryd.func65, Tryd.ntmps65
    go_wp2
    go_ret2
    exact ⟨rfl, rfl⟩
theorem putint (x : Int) (hx1 : -4611686018427387903 ≤ x) (hx2 : x ≤ 4611686018427387903) (w : World) :
    Calls Tryd.prog 65 #[.int .i64 x] w fun e w' => e = .returned (.tuple #[.string ⟨(RW.putI x).toArray⟩, .int .i64 0]) ∧ Below w.heap.size w w' :=
  callsIn_wide.1 (putint_in Fence.wide 3 trivial trivial trivial rfl (by omega) x hx1 hx2 w)

set_option maxHeartbeats 400000 in
theorem zigzag_any (x : Int) (hx1 : -4611686018427387904 ≤ x) (hx2 : x ≤ 4611686018427387903) (w : World) :
    Calls Tryd.prog 50 #[.int .i64 x] w fun e w' => e = .returned (.int .u64 (RW.zz x)) ∧ w = w' := by
  by_cases h : x < 0
  · go_enter Tryd.func50, Tryd.ntmps50
    go_wp2
    go_ret
    exact ⟨ret_int (by unfold RW.zz; split <;> omega), rfl⟩
  · go_enter Tryd.func50, Tryd.ntmps50
    go_wp2
    go_ret
    exact ⟨ret_int (by unfold RW.zz; split <;> omega), rfl⟩

def putRes : Option (List UInt8) → Value
  | none => .tuple #[.string ⟨#[]⟩, .int .i64 10]
  | some l => .tuple #[.string ⟨l.toArray⟩, .int .i64 0]
/-- royaltyref01.PutInt, out of range -/
theorem rputint_out (x : Int) (hx : x < -4611686018427387903 ∨ 4611686018427387903 < x) (w : World) :
    Calls Tryd.prog 27 #[.int .i64 x] w fun e w' => e = .returned (.tuple #[.string ⟨#[]⟩, .int .i64 10]) ∧ w = w' := by
  by_cases h1 : x < -4611686018427387903
  · go_enter Tryd.func27, Tryd.ntmps27
    go_wp2
    go_ret2
    exact ⟨rfl, rfl⟩
  · have h2 : 4611686018427387903 < x := by omega
    go_enter Tryd.func27, Tryd.ntmps27
    go_wp2
    go_ret2
    exact ⟨rfl, rfl⟩
set_option maxRecDepth 10000 in
set_option maxHeartbeats 1000000 in
theorem rputint (x : Int) (hx1 : -4611686018427387903 ≤ x) (hx2 : x ≤ 4611686018427387903) (w : World) :
    Calls Tryd.prog 27 #[.int .i64 x] w fun e w' => e = .returned (.tuple #[.string ⟨(RW.putI x).toArray⟩, .int .i64 0]) ∧ Below w.heap.size w w' := by
  have hz := RW.zz_lt x hx1 hx2
  obtain ⟨i0, hi, hz0, hz1, hz2⟩ := info_parts info5
  go_enter Tryd.func27, Tryd.ntmps27
  go_wp2_with (go_at_call 50; refine (zigzag_any _ (by omega) (by omega) _).mono ?_; rintro e w' ⟨rfl, rfl⟩)
  go_loopw [4, 5] (fun vz v wr => ∃ (f z : Nat) (l : List UInt8), vz = .int .u64 z ∧ z < 2 ^ (7 * (f + 1)) ∧ z < 9223372036854775808 ∧ l.length + f + 1 ≤ 10 ∧ Hid (l ++ RW.encF (f + 1) z = RW.putI x) ∧ wr.ownsRow w.heap.size 5 1 v l.length (RW.bytesV l) ∧ Below w.heap.size w wr)
    (fun vz _ _ => (intOf vz).toNat)
  case atStart => exact ⟨9, RW.zz x, [], rfl, by omega, hz, by simp, rfl, World.ownsRow_nil _ _ _ _, Below.refl _ _⟩
  case round =>
    obtain ⟨f, z, l, rfl, hzf, hz', hlen, hl, hown, hB⟩ := hrel
    have hbs := hB.size
    by_cases hlt : z < 128
    · have hbv := hide (RW.bytesV_snoc l z (by omega))
      go_wp2_with (at_builtin; refine wpList_append_own _ rfl _ _ 38 rfl w.heap.size 5 i0 (.int .u8 0) 1 1 Tryd.underlying38 hi hz0 hz1 hz2 rfl (by decide) _ _ _ rfl (hown.alloc _) ⟨wr.heap.size, 0, none⟩ 1 1 [.int .u8 z] rfl rfl (cell_one_new _ _ _) (by simp [Value.oneCell']) (by unfold maxLen; omega) (by omega) (by simp; omega) ?_; intro v' w1 hown' hgrow _; obtain ⟨g', cap', rfl⟩ := ownsRow_succ hown'; rw [hbv.out] at hown'; have hrun := RW.own_string hown' 38 9 Tryd.underlying38 Tryd.underlying5 Tryd.underlying9)
      go_ret2
      rw [← hl.out, RW.encF_succ _ _ hlt]
      exact ⟨rfl, (hB.alloc hB.size _).grown hgrow (by simp; omega) (fun k e => (hown.lt k e).1)⟩
    · have hbv := hide (RW.bytesV_snoc l (z % 128 + 128) (by omega))
      go_wp2_with (at_builtin; refine wpList_append_own _ rfl _ _ 38 rfl w.heap.size 5 i0 (.int .u8 0) 1 1 Tryd.underlying38 hi hz0 hz1 hz2 rfl (by decide) _ _ _ rfl (hown.alloc _) ⟨wr.heap.size, 0, none⟩ 1 1 [.int .u8 ((z : Int) % 128 + 128)] rfl rfl (cell_one_new _ _ _) (by simp [Value.oneCell']) (by unfold maxLen; omega) (by omega) (by simp; omega) ?_; intro v' w1 hown' hgrow _; obtain ⟨g', cap', rfl⟩ := ownsRow_succ hown')
      go_roundw
      case rel =>
        obtain ⟨f, rfl⟩ : ∃ f', f = f' + 1 := by
          cases f with
          | zero => simp at hzf; omega
          | succ f => exact ⟨f, rfl⟩
        refine ⟨f, z / 128, l ++ [UInt8.ofNat (z % 128 + 128)], by go_num, ?_, by omega, by simp; omega, ?_, ?_, ?_⟩
        · have : 2 ^ (7 * (f + 1 + 1)) = 128 * 2 ^ (7 * (f + 1)) := by rw [Nat.mul_add, Nat.pow_add]; omega
          omega
        · show _ = _
          rw [← hl.out, RW.encF_hi _ _ hlt]; simp
        · rw [← hbv.out, List.length_append]; exact hown'
        · exact (hB.alloc hB.size _).grown hgrow (by simp; omega) (fun k e => (hown.lt k e).1)
      case measure => simp [intOf]; omega
end Go.Proofs.YtllbphanfahkkaaDoor

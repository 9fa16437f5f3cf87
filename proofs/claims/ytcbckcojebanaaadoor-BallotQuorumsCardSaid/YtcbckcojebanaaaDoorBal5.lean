/-
  Package ballot: lists of strings as values; messages as structs; Same, and the comparison of six numbers: what they return; only new memory is written.
-/
import Derived.Deep.DeepCutAuto
import Derived.Test.YtcbckcojebanaaaDoorBal4
namespace Go.Proofs.YtcbckcojebanaaaDoor
open Go.RowKit
namespace RW
noncomputable def dec (p : Prop) : Bool := @decide p (Classical.propDecidable p)
theorem dec_iff (p : Prop) : dec p = true ↔ p := by unfold dec; exact @decide_eq_true_iff p (Classical.propDecidable p)
theorem dec_true {p : Prop} (h : p) : dec p = true := (dec_iff p).2 h
theorem dec_false {p : Prop} (h : ¬ p) : dec p = false := by
  cases e : dec p
  · rfl
  · exact absurd ((dec_iff p).1 e) h
def six6 (a : Nat → Int) : Array Value := #[.int .i64 (a 0), .int .i64 (a 1), .int .i64 (a 2), .int .i64 (a 3), .int .i64 (a 4), .int .i64 (a 5)]
theorem all6 {a b : Nat → Int} (g0 : a 0 = b 0) (g1 : a 1 = b 1) (g2 : a 2 = b 2) (g3 : a 3 = b 3) (g4 : a 4 = b 4) (g5 : a 5 = b 5) : ∀ i, i < 6 → a i = b i := fun i hi => by
  have h : i = 0 ∨ i = 1 ∨ i = 2 ∨ i = 3 ∨ i = 4 ∨ i = 5 := by omega
  rcases h with rfl | rfl | rfl | rfl | rfl | rfl <;> assumption
/-- a message's cells -/
def mcells (n : Nat → Int) (d : ByteArray) (v : Value) : Array Value := #[.int .i64 (n 0), .int .i64 (n 1), .int .i64 (n 2), .int .i64 (n 3), .int .i64 (n 4), .int .i64 (n 5), .string d, v]
end RW
/-- a value that is a list of strings -/
def StrsV (W : World) (v : Value) (l : List ByteArray) : Prop :=
  ∃ a cap, v = .slice a l.length cap ∧ l.length ≤ cap ∧ (l = [] ∨ ∃ b o, a = some ⟨b, o, none⟩ ∧ b < W.heap.size ∧ ∀ i, i < l.length → W.cell? ⟨b, o + i, none⟩ = some (.string (l.getD i ⟨#[]⟩)))
theorem StrsV.next {W W' : World} {v : Value} {l : List ByteArray} (h : StrsV W v l) (hB : Below W.heap.size W W') : StrsV W' v l := by
  obtain ⟨a, cap, hv, hk, h⟩ := h
  refine ⟨a, cap, hv, hk, h.imp id fun ⟨b, o, ha, hb, hc⟩ => ⟨b, o, ha, Nat.lt_of_lt_of_le hb hB.size, fun i hi => ?_⟩⟩
  exact (World.cell?_of_block (a := ⟨b, o + i, none⟩) (hB.block _ hb)).trans (hc i hi)
theorem asc_v {W : World} {v : Value} {l : List ByteArray} (h : StrsV W v l) (hl : l.length ≤ 140737488355328) : Calls Tryd.prog 50 #[v] W fun e w' => e = .returned (.bool (RW.asc (RW.bl l))) ∧ W = w' := by
  obtain ⟨a, cap, rfl, _, h | ⟨b, o, rfl, _, hc⟩⟩ := h
  · subst h; exact asc_none a cap W
  · exact asc_any b o cap l hl W hc
theorem contains_none (a : Option Addr) (cap : Nat) (w : World) : Calls Tryd.prog 48 #[.slice a 0 cap, .func (.func 49) #[] #[]] w fun e w' => e = .returned (.bool false) ∧ w = w' := by
  have hI : ∀ W, Calls Tryd.prog 67 #[.slice a 0 cap, .func (.func 49) #[] #[]] W fun e w' => e = .returned (.int .i64 (-1)) ∧ W = w' := by
    intro W
    go_enter Tryd.func67, Tryd.ntmps67
    go_wp2
    refine wp_loop_rounds 1 ?_
    rw [rounds_succ]
    go_wp2
    go_ret
    exact ⟨rfl, rfl⟩
  have hIH := hide hI
  clear hI
  go_enter Tryd.func48, Tryd.ntmps48
  go_wp2_with (go_at_call 67; refine (hIH.out _).mono ?_; rintro e w' ⟨rfl, rfl⟩)
  go_ret
  exact ⟨rfl, rfl⟩
theorem contains_v {W : World} {v : Value} {l : List ByteArray} (h : StrsV W v l) (hl : l.length ≤ 140737488355328) (hs : ∀ s ∈ l, s.size ≤ 9223372036854775807) :
    Calls Tryd.prog 48 #[v, .func (.func 49) #[] #[]] W fun e w' => e = .returned (.bool (l.any RW.longB)) ∧ W = w' := by
  obtain ⟨a, cap, rfl, _, h | ⟨b, o, rfl, _, hc⟩⟩ := h
  · subst h; exact contains_none a cap W
  · exact contains_any b o cap l hl hs W hc
theorem equal_v {W : World} {v u : Value} {l m : List ByteArray} (h : StrsV W v l) (h2 : StrsV W u m) (hl : l.length ≤ 140737488355328) (hm : m.length ≤ 140737488355328) :
    Calls Tryd.prog 54 #[v, u] W (EqlPost (decide (l = m)) W) := by
  obtain ⟨a, cap, rfl, _, h⟩ := h
  obtain ⟨a2, cap2, rfl, _, h2⟩ := h2
  by_cases hne : l.length = m.length
  · rcases h with h | ⟨b, o, rfl, _, hc⟩
    · subst h
      have hm0 : m = [] := List.length_eq_zero_iff.1 hne.symm
      subst hm0
      exact equal_none a a2 cap cap2 W
    · rcases h2 with h2 | ⟨b2, o2, rfl, _, hc2⟩
      · subst h2
        have hl0 : l = [] := List.length_eq_zero_iff.1 hne
        subst hl0
        exact equal_none _ a2 cap cap2 W
      · rw [← hne]
        exact equal_any b o cap b2 o2 cap2 l m hl hne.symm W hc (fun i hi => hc2 i (by omega))
  · rw [decide_eq_false (fun h => hne (by rw [h]))]
    exact equal_len _ _ _ _ _ _ hl hm hne W
theorem eql_six (a b : Nat → Int) (W : World) : (binOp .eql 68 (.agg (RW.six6 a)) (.agg (RW.six6 b))).run Tryd.prog W = .ok (.bool (RW.dec (∀ i, i < 6 → a i = b i))) W := by
  have hr5 : (Tryd.prog.info? 3).map (·.size) = some 1 := by kernel_rfl
  obtain ⟨inf, hq, h2⟩ := Option.map_eq_some_iff.1 hr5
  have hp : ∀ (X : Array Value) (i : Nat) (v : Value), X[i]? = some v → (part 3 X i).run Tryd.prog W = .ok v W := fun X i v h => by
    simp [part, isAgg, run_underlying Tryd.underlying3, h]
  have hz : (sizeOf 3).run Tryd.prog W = .ok 1 W := by simp [sizeOf, typeInfo, hq, h2]
  rw [run_eql_struct]
  have h : (Op.equalIn (9999 + 1) 68 (.agg #[.int .i64 (a 0), .int .i64 (a 1), .int .i64 (a 2), .int .i64 (a 3), .int .i64 (a 4), .int .i64 (a 5)]) (.agg #[.int .i64 (b 0), .int .i64 (b 1), .int .i64 (b 2), .int .i64 (b 3), .int .i64 (b 4), .int .i64 (b 5)])).run Tryd.prog W = .ok (RW.dec (∀ i, i < 6 → a i = b i)) W := by
    unfold Op.equalIn
    simp only [Sem.run_bind, run_underlying Tryd.underlying68, Result.andThen_ok, hz, Std.Legacy.Range.forIn_eq_forIn_range', Std.Legacy.Range.size]
    rw [show List.range' 0 ((6 - 0 + 1 - 1) / 1) = [0, 1, 2, 3, 4, 5] from rfl]
    have e : ∀ x y : Int, (Op.equalIn 9999 3 (.int .i64 x) (.int .i64 y)).run Tryd.prog W = .ok (x == y) W := fun x y => run_equalIn_int W 9998 3 .i64 .i64 x y Tryd.underlying3
    by_cases g0 : a 0 = b 0
    · skip
      by_cases g1 : a 1 = b 1
      · skip
        by_cases g2 : a 2 = b 2
        · skip
          by_cases g3 : a 3 = b 3
          · skip
            by_cases g4 : a 4 = b 4
            · skip
              by_cases g5 : a 5 = b 5
              · skip
                rw [RW.dec_true (RW.all6 g0 g1 g2 g3 g4 g5)]
                have x0 := hp #[.int .i64 (a 0), .int .i64 (a 1), .int .i64 (a 2), .int .i64 (a 3), .int .i64 (a 4), .int .i64 (a 5)] 0 _ rfl
                have y0 := hp #[.int .i64 (b 0), .int .i64 (b 1), .int .i64 (b 2), .int .i64 (b 3), .int .i64 (b 4), .int .i64 (b 5)] 0 _ rfl
                have x1 := hp #[.int .i64 (a 0), .int .i64 (a 1), .int .i64 (a 2), .int .i64 (a 3), .int .i64 (a 4), .int .i64 (a 5)] 1 _ rfl
                have y1 := hp #[.int .i64 (b 0), .int .i64 (b 1), .int .i64 (b 2), .int .i64 (b 3), .int .i64 (b 4), .int .i64 (b 5)] 1 _ rfl
                have x2 := hp #[.int .i64 (a 0), .int .i64 (a 1), .int .i64 (a 2), .int .i64 (a 3), .int .i64 (a 4), .int .i64 (a 5)] 2 _ rfl
                have y2 := hp #[.int .i64 (b 0), .int .i64 (b 1), .int .i64 (b 2), .int .i64 (b 3), .int .i64 (b 4), .int .i64 (b 5)] 2 _ rfl
                have x3 := hp #[.int .i64 (a 0), .int .i64 (a 1), .int .i64 (a 2), .int .i64 (a 3), .int .i64 (a 4), .int .i64 (a 5)] 3 _ rfl
                have y3 := hp #[.int .i64 (b 0), .int .i64 (b 1), .int .i64 (b 2), .int .i64 (b 3), .int .i64 (b 4), .int .i64 (b 5)] 3 _ rfl
                have x4 := hp #[.int .i64 (a 0), .int .i64 (a 1), .int .i64 (a 2), .int .i64 (a 3), .int .i64 (a 4), .int .i64 (a 5)] 4 _ rfl
                have y4 := hp #[.int .i64 (b 0), .int .i64 (b 1), .int .i64 (b 2), .int .i64 (b 3), .int .i64 (b 4), .int .i64 (b 5)] 4 _ rfl
                have x5 := hp #[.int .i64 (a 0), .int .i64 (a 1), .int .i64 (a 2), .int .i64 (a 3), .int .i64 (a 4), .int .i64 (a 5)] 5 _ rfl
                have y5 := hp #[.int .i64 (b 0), .int .i64 (b 1), .int .i64 (b 2), .int .i64 (b 3), .int .i64 (b 4), .int .i64 (b 5)] 5 _ rfl
                have e0 : (Op.equalIn 9999 3 (.int .i64 (a 0)) (.int .i64 (b 0))).run Tryd.prog W = .ok true W := by rw [e]; simp [g0]
                have e1 : (Op.equalIn 9999 3 (.int .i64 (a 1)) (.int .i64 (b 1))).run Tryd.prog W = .ok true W := by rw [e]; simp [g1]
                have e2 : (Op.equalIn 9999 3 (.int .i64 (a 2)) (.int .i64 (b 2))).run Tryd.prog W = .ok true W := by rw [e]; simp [g2]
                have e3 : (Op.equalIn 9999 3 (.int .i64 (a 3)) (.int .i64 (b 3))).run Tryd.prog W = .ok true W := by rw [e]; simp [g3]
                have e4 : (Op.equalIn 9999 3 (.int .i64 (a 4)) (.int .i64 (b 4))).run Tryd.prog W = .ok true W := by rw [e]; simp [g4]
                have e5 : (Op.equalIn 9999 3 (.int .i64 (a 5)) (.int .i64 (b 5))).run Tryd.prog W = .ok true W := by rw [e]; simp [g5]
                simp [List.forIn_cons, x0, y0, x1, y1, x2, y2, x3, y3, x4, y4, x5, y5, e0, e1, e2, e3, e4, e5]
              · rw [RW.dec_false (fun h => g5 (h 5 (by decide)))]
                have x0 := hp #[.int .i64 (a 0), .int .i64 (a 1), .int .i64 (a 2), .int .i64 (a 3), .int .i64 (a 4), .int .i64 (a 5)] 0 _ rfl
                have y0 := hp #[.int .i64 (b 0), .int .i64 (b 1), .int .i64 (b 2), .int .i64 (b 3), .int .i64 (b 4), .int .i64 (b 5)] 0 _ rfl
                have x1 := hp #[.int .i64 (a 0), .int .i64 (a 1), .int .i64 (a 2), .int .i64 (a 3), .int .i64 (a 4), .int .i64 (a 5)] 1 _ rfl
                have y1 := hp #[.int .i64 (b 0), .int .i64 (b 1), .int .i64 (b 2), .int .i64 (b 3), .int .i64 (b 4), .int .i64 (b 5)] 1 _ rfl
                have x2 := hp #[.int .i64 (a 0), .int .i64 (a 1), .int .i64 (a 2), .int .i64 (a 3), .int .i64 (a 4), .int .i64 (a 5)] 2 _ rfl
                have y2 := hp #[.int .i64 (b 0), .int .i64 (b 1), .int .i64 (b 2), .int .i64 (b 3), .int .i64 (b 4), .int .i64 (b 5)] 2 _ rfl
                have x3 := hp #[.int .i64 (a 0), .int .i64 (a 1), .int .i64 (a 2), .int .i64 (a 3), .int .i64 (a 4), .int .i64 (a 5)] 3 _ rfl
                have y3 := hp #[.int .i64 (b 0), .int .i64 (b 1), .int .i64 (b 2), .int .i64 (b 3), .int .i64 (b 4), .int .i64 (b 5)] 3 _ rfl
                have x4 := hp #[.int .i64 (a 0), .int .i64 (a 1), .int .i64 (a 2), .int .i64 (a 3), .int .i64 (a 4), .int .i64 (a 5)] 4 _ rfl
                have y4 := hp #[.int .i64 (b 0), .int .i64 (b 1), .int .i64 (b 2), .int .i64 (b 3), .int .i64 (b 4), .int .i64 (b 5)] 4 _ rfl
                have x5 := hp #[.int .i64 (a 0), .int .i64 (a 1), .int .i64 (a 2), .int .i64 (a 3), .int .i64 (a 4), .int .i64 (a 5)] 5 _ rfl
                have y5 := hp #[.int .i64 (b 0), .int .i64 (b 1), .int .i64 (b 2), .int .i64 (b 3), .int .i64 (b 4), .int .i64 (b 5)] 5 _ rfl
                have e0 : (Op.equalIn 9999 3 (.int .i64 (a 0)) (.int .i64 (b 0))).run Tryd.prog W = .ok true W := by rw [e]; simp [g0]
                have e1 : (Op.equalIn 9999 3 (.int .i64 (a 1)) (.int .i64 (b 1))).run Tryd.prog W = .ok true W := by rw [e]; simp [g1]
                have e2 : (Op.equalIn 9999 3 (.int .i64 (a 2)) (.int .i64 (b 2))).run Tryd.prog W = .ok true W := by rw [e]; simp [g2]
                have e3 : (Op.equalIn 9999 3 (.int .i64 (a 3)) (.int .i64 (b 3))).run Tryd.prog W = .ok true W := by rw [e]; simp [g3]
                have e4 : (Op.equalIn 9999 3 (.int .i64 (a 4)) (.int .i64 (b 4))).run Tryd.prog W = .ok true W := by rw [e]; simp [g4]
                have e5 : (Op.equalIn 9999 3 (.int .i64 (a 5)) (.int .i64 (b 5))).run Tryd.prog W = .ok false W := by rw [e]; simp [g5]
                simp [List.forIn_cons, x0, y0, x1, y1, x2, y2, x3, y3, x4, y4, x5, y5, e0, e1, e2, e3, e4, e5]
            · rw [RW.dec_false (fun h => g4 (h 4 (by decide)))]
              have x0 := hp #[.int .i64 (a 0), .int .i64 (a 1), .int .i64 (a 2), .int .i64 (a 3), .int .i64 (a 4), .int .i64 (a 5)] 0 _ rfl
              have y0 := hp #[.int .i64 (b 0), .int .i64 (b 1), .int .i64 (b 2), .int .i64 (b 3), .int .i64 (b 4), .int .i64 (b 5)] 0 _ rfl
              have x1 := hp #[.int .i64 (a 0), .int .i64 (a 1), .int .i64 (a 2), .int .i64 (a 3), .int .i64 (a 4), .int .i64 (a 5)] 1 _ rfl
              have y1 := hp #[.int .i64 (b 0), .int .i64 (b 1), .int .i64 (b 2), .int .i64 (b 3), .int .i64 (b 4), .int .i64 (b 5)] 1 _ rfl
              have x2 := hp #[.int .i64 (a 0), .int .i64 (a 1), .int .i64 (a 2), .int .i64 (a 3), .int .i64 (a 4), .int .i64 (a 5)] 2 _ rfl
              have y2 := hp #[.int .i64 (b 0), .int .i64 (b 1), .int .i64 (b 2), .int .i64 (b 3), .int .i64 (b 4), .int .i64 (b 5)] 2 _ rfl
              have x3 := hp #[.int .i64 (a 0), .int .i64 (a 1), .int .i64 (a 2), .int .i64 (a 3), .int .i64 (a 4), .int .i64 (a 5)] 3 _ rfl
              have y3 := hp #[.int .i64 (b 0), .int .i64 (b 1), .int .i64 (b 2), .int .i64 (b 3), .int .i64 (b 4), .int .i64 (b 5)] 3 _ rfl
              have x4 := hp #[.int .i64 (a 0), .int .i64 (a 1), .int .i64 (a 2), .int .i64 (a 3), .int .i64 (a 4), .int .i64 (a 5)] 4 _ rfl
              have y4 := hp #[.int .i64 (b 0), .int .i64 (b 1), .int .i64 (b 2), .int .i64 (b 3), .int .i64 (b 4), .int .i64 (b 5)] 4 _ rfl
              have e0 : (Op.equalIn 9999 3 (.int .i64 (a 0)) (.int .i64 (b 0))).run Tryd.prog W = .ok true W := by rw [e]; simp [g0]
              have e1 : (Op.equalIn 9999 3 (.int .i64 (a 1)) (.int .i64 (b 1))).run Tryd.prog W = .ok true W := by rw [e]; simp [g1]
              have e2 : (Op.equalIn 9999 3 (.int .i64 (a 2)) (.int .i64 (b 2))).run Tryd.prog W = .ok true W := by rw [e]; simp [g2]
              have e3 : (Op.equalIn 9999 3 (.int .i64 (a 3)) (.int .i64 (b 3))).run Tryd.prog W = .ok true W := by rw [e]; simp [g3]
              have e4 : (Op.equalIn 9999 3 (.int .i64 (a 4)) (.int .i64 (b 4))).run Tryd.prog W = .ok false W := by rw [e]; simp [g4]
              simp [List.forIn_cons, x0, y0, x1, y1, x2, y2, x3, y3, x4, y4, e0, e1, e2, e3, e4]
          · rw [RW.dec_false (fun h => g3 (h 3 (by decide)))]
            have x0 := hp #[.int .i64 (a 0), .int .i64 (a 1), .int .i64 (a 2), .int .i64 (a 3), .int .i64 (a 4), .int .i64 (a 5)] 0 _ rfl
            have y0 := hp #[.int .i64 (b 0), .int .i64 (b 1), .int .i64 (b 2), .int .i64 (b 3), .int .i64 (b 4), .int .i64 (b 5)] 0 _ rfl
            have x1 := hp #[.int .i64 (a 0), .int .i64 (a 1), .int .i64 (a 2), .int .i64 (a 3), .int .i64 (a 4), .int .i64 (a 5)] 1 _ rfl
            have y1 := hp #[.int .i64 (b 0), .int .i64 (b 1), .int .i64 (b 2), .int .i64 (b 3), .int .i64 (b 4), .int .i64 (b 5)] 1 _ rfl
            have x2 := hp #[.int .i64 (a 0), .int .i64 (a 1), .int .i64 (a 2), .int .i64 (a 3), .int .i64 (a 4), .int .i64 (a 5)] 2 _ rfl
            have y2 := hp #[.int .i64 (b 0), .int .i64 (b 1), .int .i64 (b 2), .int .i64 (b 3), .int .i64 (b 4), .int .i64 (b 5)] 2 _ rfl
            have x3 := hp #[.int .i64 (a 0), .int .i64 (a 1), .int .i64 (a 2), .int .i64 (a 3), .int .i64 (a 4), .int .i64 (a 5)] 3 _ rfl
            have y3 := hp #[.int .i64 (b 0), .int .i64 (b 1), .int .i64 (b 2), .int .i64 (b 3), .int .i64 (b 4), .int .i64 (b 5)] 3 _ rfl
            have e0 : (Op.equalIn 9999 3 (.int .i64 (a 0)) (.int .i64 (b 0))).run Tryd.prog W = .ok true W := by rw [e]; simp [g0]
            have e1 : (Op.equalIn 9999 3 (.int .i64 (a 1)) (.int .i64 (b 1))).run Tryd.prog W = .ok true W := by rw [e]; simp [g1]
            have e2 : (Op.equalIn 9999 3 (.int .i64 (a 2)) (.int .i64 (b 2))).run Tryd.prog W = .ok true W := by rw [e]; simp [g2]
            have e3 : (Op.equalIn 9999 3 (.int .i64 (a 3)) (.int .i64 (b 3))).run Tryd.prog W = .ok false W := by rw [e]; simp [g3]
            simp [List.forIn_cons, x0, y0, x1, y1, x2, y2, x3, y3, e0, e1, e2, e3]
        · rw [RW.dec_false (fun h => g2 (h 2 (by decide)))]
          have x0 := hp #[.int .i64 (a 0), .int .i64 (a 1), .int .i64 (a 2), .int .i64 (a 3), .int .i64 (a 4), .int .i64 (a 5)] 0 _ rfl
          have y0 := hp #[.int .i64 (b 0), .int .i64 (b 1), .int .i64 (b 2), .int .i64 (b 3), .int .i64 (b 4), .int .i64 (b 5)] 0 _ rfl
          have x1 := hp #[.int .i64 (a 0), .int .i64 (a 1), .int .i64 (a 2), .int .i64 (a 3), .int .i64 (a 4), .int .i64 (a 5)] 1 _ rfl
          have y1 := hp #[.int .i64 (b 0), .int .i64 (b 1), .int .i64 (b 2), .int .i64 (b 3), .int .i64 (b 4), .int .i64 (b 5)] 1 _ rfl
          have x2 := hp #[.int .i64 (a 0), .int .i64 (a 1), .int .i64 (a 2), .int .i64 (a 3), .int .i64 (a 4), .int .i64 (a 5)] 2 _ rfl
          have y2 := hp #[.int .i64 (b 0), .int .i64 (b 1), .int .i64 (b 2), .int .i64 (b 3), .int .i64 (b 4), .int .i64 (b 5)] 2 _ rfl
          have e0 : (Op.equalIn 9999 3 (.int .i64 (a 0)) (.int .i64 (b 0))).run Tryd.prog W = .ok true W := by rw [e]; simp [g0]
          have e1 : (Op.equalIn 9999 3 (.int .i64 (a 1)) (.int .i64 (b 1))).run Tryd.prog W = .ok true W := by rw [e]; simp [g1]
          have e2 : (Op.equalIn 9999 3 (.int .i64 (a 2)) (.int .i64 (b 2))).run Tryd.prog W = .ok false W := by rw [e]; simp [g2]
          simp [List.forIn_cons, x0, y0, x1, y1, x2, y2, e0, e1, e2]
      · rw [RW.dec_false (fun h => g1 (h 1 (by decide)))]
        have x0 := hp #[.int .i64 (a 0), .int .i64 (a 1), .int .i64 (a 2), .int .i64 (a 3), .int .i64 (a 4), .int .i64 (a 5)] 0 _ rfl
        have y0 := hp #[.int .i64 (b 0), .int .i64 (b 1), .int .i64 (b 2), .int .i64 (b 3), .int .i64 (b 4), .int .i64 (b 5)] 0 _ rfl
        have x1 := hp #[.int .i64 (a 0), .int .i64 (a 1), .int .i64 (a 2), .int .i64 (a 3), .int .i64 (a 4), .int .i64 (a 5)] 1 _ rfl
        have y1 := hp #[.int .i64 (b 0), .int .i64 (b 1), .int .i64 (b 2), .int .i64 (b 3), .int .i64 (b 4), .int .i64 (b 5)] 1 _ rfl
        have e0 : (Op.equalIn 9999 3 (.int .i64 (a 0)) (.int .i64 (b 0))).run Tryd.prog W = .ok true W := by rw [e]; simp [g0]
        have e1 : (Op.equalIn 9999 3 (.int .i64 (a 1)) (.int .i64 (b 1))).run Tryd.prog W = .ok false W := by rw [e]; simp [g1]
        simp [List.forIn_cons, x0, y0, x1, y1, e0, e1]
    · rw [RW.dec_false (fun h => g0 (h 0 (by decide)))]
      have x0 := hp #[.int .i64 (a 0), .int .i64 (a 1), .int .i64 (a 2), .int .i64 (a 3), .int .i64 (a 4), .int .i64 (a 5)] 0 _ rfl
      have y0 := hp #[.int .i64 (b 0), .int .i64 (b 1), .int .i64 (b 2), .int .i64 (b 3), .int .i64 (b 4), .int .i64 (b 5)] 0 _ rfl
      have e0 : (Op.equalIn 9999 3 (.int .i64 (a 0)) (.int .i64 (b 0))).run Tryd.prog W = .ok false W := by rw [e]; simp [g0]
      simp [List.forIn_cons, x0, y0, e0]
  show ((Op.equalIn (9999 + 1) 68 (.agg #[.int .i64 (a 0), .int .i64 (a 1), .int .i64 (a 2), .int .i64 (a 3), .int .i64 (a 4), .int .i64 (a 5)]) (.agg #[.int .i64 (b 0), .int .i64 (b 1), .int .i64 (b 2), .int .i64 (b 3), .int .i64 (b 4), .int .i64 (b 5)])).run Tryd.prog W).andThen _ = _
  rw [h]
  rfl
end Go.Proofs.YtcbckcojebanaaaDoor

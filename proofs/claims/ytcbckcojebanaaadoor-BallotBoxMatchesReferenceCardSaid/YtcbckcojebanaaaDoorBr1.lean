/-
  Package royaltyref25: IDs: what it returns; nothing is written.
-/
import Derived.Test.YtcbckcojebanaaaDoorMZ2
import Derived.Test.YtcbckcojebanaaaDoorBv
namespace Go.Proofs.YtcbckcojebanaaaDoor
open Go.RowKit RG
section
variable {ev : Operand → Value} {o : Oper} {x y : Operand} {w : World}
theorem op_idxs {b ao i n c : Nat} (ho : o.op = .indexAddr 22 x y) (hx : ev x = .slice (some ⟨b, ao, none⟩) n c) (hy : ev y = .int .i64 i) (hi : i < n) : (execOp ev o).run Tryd.prog w = .ok (.value (.pointer (some ⟨b, ao + i, none⟩))) w := by
  unfold execOp
  rw [ho]
  go_simp
theorem op_len_str {s : ByteArray} (ho : o.op = .call { callee := .builtin .len, args := #[x], argTypes := #[9] }) (hx : ev x = .string s) : (execOp ev o).run Tryd.prog w = .ok (.value (.int .i64 s.size)) w := by
  unfold execOp
  rw [ho]
  go_simp
theorem op_neq_int {m n : Int} (ho : o.op = .binOp .neq 3 x y 3) (hx : ev x = .int .i64 m) (hy : ev y = .int .i64 n) : (execOp ev o).run Tryd.prog w = .ok (.value (.bool (m != n))) w := by
  unfold execOp
  rw [ho]
  simp only [hx, hy]
  go_simp
theorem op_gtr {m n : Int} (ho : o.op = .binOp .gtr 3 x y 3) (hx : ev x = .int .i64 m) (hy : ev y = .int .i64 n) : (execOp ev o).run Tryd.prog w = .ok (.value (.bool (decide (n < m)))) w := by
  unfold execOp
  rw [ho]
  simp only [hx, hy]
  go_simp
theorem op_sub {m n r : Int} (ho : o.op = .binOp .sub 3 x y 3) (hx : ev x = .int .i64 m) (hy : ev y = .int .i64 n) (h : m - n = r) (hb : -9223372036854775808 ≤ r ∧ r ≤ 9223372036854775807) : (execOp ev o).run Tryd.prog w = .ok (.value (.int .i64 r)) w := by
  have e : IntKind.i64.wrap (m - n) = r := by rw [h]; exact IntWalk.i64_in _ hb
  unfold execOp
  rw [ho]
  clear hb h
  go_simp
theorem op_leq_str {s t : ByteArray} (ho : o.op = .binOp .leq 9 x y 9) (hx : ev x = .string s) (hy : ev y = .string t) : (execOp ev o).run Tryd.prog w = .ok (.value (.bool (Op.bytesLess s.toList t.toList || s.toList == t.toList))) w := by
  unfold execOp
  rw [ho]
  simp only [hx, hy]
  go_simp
end
set_option maxRecDepth 100000 in
set_option maxHeartbeats 4000000 in
theorem rids_some (b o cap : Nat) (l : List ByteArray) (hl : l.length ≤ 140737488355328) (w : World) (hc : ∀ i, i < l.length → w.cell? ⟨b, o + i, none⟩ = some (.string (l.getD i ⟨#[]⟩))) :
    Calls Tryd.prog 52 #[.slice (some ⟨b, o, none⟩) l.length cap] w fun e w' => e = .returned (.bool (RW.asc (RW.bl l))) ∧ ∃ k, w' = w.drewN k := by
  have hcH := hide hc
  clear hc
  obtain ⟨n, hn⟩ : ∃ n, n = l.length := ⟨_, rfl⟩
  rw [← hn] at hl ⊢
  have hnH := hide hn
  clear hn
  go_enter Tryd.func52, Tryd.ntmps52
  go_wp2
  go_loopw [3] (fun i wr => ∃ k : Nat, k ≤ n ∧ i = .int .i64 k ∧ Hid (RW.ascTo none ((RW.bl l).take k) = true) ∧ ∃ d, wr = w.drewN d) (fun i _ => n - (intOf i).toNat)
  case atStart => exact ⟨0, Nat.zero_le _, rfl, rfl, 0, rfl⟩
  case round =>
    obtain ⟨k, hk, rfl, ha, d, rfl⟩ := hrel
    by_cases hlt : k < n
    · have hkl : k < l.length := by rw [← hnH.out]; exact hlt
      have hs := RW.asc_step l k hkl
      rw [ha.out, Bool.true_and] at hs
      have hno := RW.asc_no l k hkl
      obtain ⟨s, hsd⟩ : ∃ s, s = l.getD k ⟨#[]⟩ := ⟨_, rfl⟩
      obtain ⟨t, htd⟩ : ∃ t, t = l.getD (k - 1) ⟨#[]⟩ := ⟨_, rfl⟩
      have ck : ∀ e, (w.drewN e).cell? ⟨b, o + k, none⟩ = some (.string s) := fun e => by rw [hsd]; exact hcH.out k hkl
      have cp : ∀ e, (w.drewN e).cell? ⟨b, o + (k - 1), none⟩ = some (.string t) := fun e => by rw [htd]; exact hcH.out (k - 1) (by omega)
      obtain ⟨p, hp⟩ : ∃ p, p = ((s.size : Int) != 32) := ⟨_, rfl⟩
      obtain ⟨r, hr⟩ : ∃ r, r = decide ((0 : Int) < k) := ⟨_, rfl⟩
      obtain ⟨y, hy⟩ : ∃ y, y = (Op.bytesLess s.toList t.toList || s.toList == t.toList) := ⟨_, rfl⟩
      obtain ⟨c, hce⟩ : ∃ c, c = (p || (r && y)) := ⟨_, rfl⟩
      have hcond : RW.condK l k = !c := by
        unfold RW.condK
        rw [← hsd, ← htd, hce, hp, hr, hy]
        have e1 : (s.size == 32) = !((s.size : Int) != 32) := by
          by_cases h : s.size = 32
          · rw [h]; rfl
          · have h2 : (s.size : Int) ≠ 32 := by omega
            rw [bne_iff_ne.2 h2, beq_eq_false_iff_ne.2 h]; rfl
        have e2 : (k == 0) = !decide ((0 : Int) < k) := by
          by_cases h : k = 0
          · rw [h]; rfl
          · have h2 : (0 : Int) < k := by omega
            rw [decide_eq_true h2, beq_eq_false_iff_ne.2 h]; rfl
        rw [e1, e2]
        cases ((s.size : Int) != 32) <;> cases decide ((0 : Int) < k) <;> simp
      have hpH := hide hp
      have hrH := hide hr
      have hyH := hide hy
      have hceH := hide hce
      have hcondH := hide hcond
      have hsH := hide hs
      have hnoH := hide hno
      have ckH := hide ck
      have cpH := hide cp
      clear hp hr hy hce hcond hs hno hsd htd ck cp
      go_upto_region 4 with fail
      refine wp_region_staged (fun _ w' => ∃ e, w' = w.drewN e) [] (by kernel_rfl) (by kernel_rfl) (by rfl) ⟨d + 1, rfl⟩ ?_
      refine st_val (.slice (some ⟨b, o, none⟩) n cap) (by rfl) (by rfl) (fun w => op_mv rfl rfl) ?_
      simp only [Act.put, List.setIfInBounds_toArray, List.set_cons_zero, List.set_cons_succ]
      refine st_val (.int .i64 k) (by rfl) (by rfl) (fun w => op_mv rfl rfl) ?_
      simp only [Act.put, List.setIfInBounds_toArray, List.set_cons_zero, List.set_cons_succ]
      refine st_val (.pointer (some ⟨b, o + k, none⟩)) (by rfl) (by rfl) (fun w => op_idxs rfl rfl rfl hlt) ?_
      simp only [Act.put, List.setIfInBounds_toArray, List.set_cons_zero, List.set_cons_succ]
      refine st_op (.string s) (by rfl) (by rfl) (fun j w0 _ hS => by obtain ⟨e, rfl⟩ := hS; rw [op_load_str rfl rfl (ckH.out e)]; exact ⟨rfl, e, rfl⟩) ?_
      simp only [Act.put, List.setIfInBounds_toArray, List.set_cons_zero, List.set_cons_succ]
      refine st_val (.int .i64 s.size) (by rfl) (by rfl) (fun w => op_len_str rfl rfl) ?_
      simp only [Act.put, List.setIfInBounds_toArray, List.set_cons_zero, List.set_cons_succ]
      refine st_val (.bool p) (by rfl) (by rfl) (fun w => by rw [hpH.out]; exact op_neq_int rfl rfl rfl) ?_
      simp only [Act.put, List.setIfInBounds_toArray, List.set_cons_zero, List.set_cons_succ]
      refine st_val (.bool p) (by rfl) (by rfl) (fun w => op_mv rfl rfl) ?_
      simp only [Act.put, List.setIfInBounds_toArray, List.set_cons_zero, List.set_cons_succ]
      refine st_if (!p) (.int .i64 k) (by cases p <;> rfl) (by rfl) (fun h j w0 _ hS => by rw [op_mv rfl rfl]; exact ⟨rfl, hS⟩) ?_
      simp only [Act.put, List.setIfInBounds_toArray, List.set_cons_zero, List.set_cons_succ]
      refine st_if (!p) (.bool r) (by cases p <;> rfl) (by rfl) (fun h j w0 _ hS => by rw [op_gtr rfl (gd_pos h) rfl, ← hrH.out]; exact ⟨rfl, hS⟩) ?_
      simp only [Act.put, List.setIfInBounds_toArray, List.set_cons_zero, List.set_cons_succ]
      refine st_if (!p) (.bool r) (by cases p <;> rfl) (by rfl) (fun h j w0 _ hS => by rw [op_mv rfl (gd_pos h)]; exact ⟨rfl, hS⟩) ?_
      simp only [Act.put, List.setIfInBounds_toArray, List.set_cons_zero, List.set_cons_succ]
      refine st_if (!p && r) (.slice (some ⟨b, o, none⟩) n cap) (by cases p <;> cases r <;> rfl) (by rfl) (fun h j w0 _ hS => by rw [op_mv rfl rfl]; exact ⟨rfl, hS⟩) ?_
      simp only [Act.put, List.setIfInBounds_toArray, List.set_cons_zero, List.set_cons_succ]
      refine st_if (!p && r) (.int .i64 k) (by cases p <;> cases r <;> rfl) (by rfl) (fun h j w0 _ hS => by rw [op_mv rfl rfl]; exact ⟨rfl, hS⟩) ?_
      simp only [Act.put, List.setIfInBounds_toArray, List.set_cons_zero, List.set_cons_succ]
      refine st_if (!p && r) (.pointer (some ⟨b, o + k, none⟩)) (by cases p <;> cases r <;> rfl) (by rfl) (fun h j w0 _ hS => by rw [op_idxs rfl (gd_pos h) (gd_pos h) hlt]; exact ⟨rfl, hS⟩) ?_
      simp only [Act.put, List.setIfInBounds_toArray, List.set_cons_zero, List.set_cons_succ]
      refine st_if (!p && r) (.string s) (by cases p <;> cases r <;> rfl) (by rfl) (fun h j w0 _ hS => by obtain ⟨e, rfl⟩ := hS; rw [op_load_str rfl (gd_pos h) (ckH.out e)]; exact ⟨rfl, e, rfl⟩) ?_
      simp only [Act.put, List.setIfInBounds_toArray, List.set_cons_zero, List.set_cons_succ]
      refine st_if (!p && r) (.slice (some ⟨b, o, none⟩) n cap) (by cases p <;> cases r <;> rfl) (by rfl) (fun h j w0 _ hS => by rw [op_mv rfl rfl]; exact ⟨rfl, hS⟩) ?_
      simp only [Act.put, List.setIfInBounds_toArray, List.set_cons_zero, List.set_cons_succ]
      refine st_if (!p && r) (.int .i64 k) (by cases p <;> cases r <;> rfl) (by rfl) (fun h j w0 _ hS => by rw [op_mv rfl rfl]; exact ⟨rfl, hS⟩) ?_
      simp only [Act.put, List.setIfInBounds_toArray, List.set_cons_zero, List.set_cons_succ]
      refine st_if (!p && r) (.int .i64 ((k - 1 : Nat) : Int)) (by cases p <;> cases r <;> rfl) (by rfl) (fun h j w0 _ hS => by rw [op_sub (r := ((k - 1 : Nat) : Int)) rfl (gd_pos h) rfl (by have h2 := (Bool.and_eq_true _ _ ▸ h).2; rw [hrH.out] at h2; have := of_decide_eq_true h2; omega) (by omega)]; exact ⟨rfl, hS⟩) ?_
      simp only [Act.put, List.setIfInBounds_toArray, List.set_cons_zero, List.set_cons_succ]
      refine st_if (!p && r) (.pointer (some ⟨b, o + (k - 1), none⟩)) (by cases p <;> cases r <;> rfl) (by rfl) (fun h j w0 _ hS => by rw [op_idxs rfl (gd_pos h) (gd_pos h) (by omega)]; exact ⟨rfl, hS⟩) ?_
      simp only [Act.put, List.setIfInBounds_toArray, List.set_cons_zero, List.set_cons_succ]
      refine st_if (!p && r) (.string t) (by cases p <;> cases r <;> rfl) (by rfl) (fun h j w0 _ hS => by obtain ⟨e, rfl⟩ := hS; rw [op_load_str rfl (gd_pos h) (cpH.out e)]; exact ⟨rfl, e, rfl⟩) ?_
      simp only [Act.put, List.setIfInBounds_toArray, List.set_cons_zero, List.set_cons_succ]
      refine st_if (!p && r) (.bool y) (by cases p <;> cases r <;> rfl) (by rfl) (fun h j w0 _ hS => by rw [op_leq_str rfl (gd_pos h) (gd_pos h), ← hyH.out]; exact ⟨rfl, hS⟩) ?_
      simp only [Act.put, List.setIfInBounds_toArray, List.set_cons_zero, List.set_cons_succ]
      refine st_if (!p) (.bool (r && y)) (by cases p <;> rfl) (by rfl) (fun h j w0 _ hS => by rw [op_pick (q := (r && y)) rfl (gd_pos h) rfl rfl (by rw [h]; cases r <;> rfl)]; exact ⟨rfl, hS⟩) ?_
      simp only [Act.put, List.setIfInBounds_toArray, List.set_cons_zero, List.set_cons_succ]
      refine st_val (.bool c) (by rfl) (by rfl) (fun w => op_pick rfl rfl rfl rfl (by rw [hceH.out]; cases p <;> rfl)) ?_
      simp only [Act.put, List.setIfInBounds_toArray, List.set_cons_zero, List.set_cons_succ]
      refine st_nil ?_
      rintro W ⟨e, rfl⟩
      cases c with
      | true =>
        go_wp2
        go_ret
        exact ⟨by rw [hnoH.out hcondH.out] <;> rfl, e, rfl⟩
      | false =>
        go_wp2
        go_roundw
        case rel => exact ⟨k + 1, by omega, by go_num, by rw [hsH.out, hcondH.out]; rfl, e, rfl⟩
        case measure => (simp [intOf] <;> omega)
    · obtain rfl : k = n := by omega
      have hfull : (RW.bl l).take k = RW.bl l := List.take_of_length_le (by rw [RW.bl_len, ← hnH.out]; exact Nat.le_refl _)
      rw [hfull] at ha
      have hasc : RW.asc (RW.bl l) = decide (k ≤ 4000) := by rw [RW.asc, ha.out, Bool.true_and, RW.bl_len, ← hnH.out]
      have hascH := hide hasc
      clear hasc hfull
      have e4 := hide (show decide (k ≤ 4000) = decide ((k : Int) ≤ 4000) from decide_eq_decide.2 (by omega))
      go_wp2
      go_ret
      exact ⟨by rw [hascH.out, e4.out] <;> rfl, d, rfl⟩
theorem rids_none (a : Option Addr) (cap : Nat) (w : World) : Calls Tryd.prog 52 #[.slice a 0 cap] w fun e w' => e = .returned (.bool (RW.asc (RW.bl []))) ∧ ∃ k, w' = w.drewN k := by
  go_enter Tryd.func52, Tryd.ntmps52
  go_wp2
  refine wp_loop_rounds 1 ?_
  rw [rounds_succ]
  go_wp2
  go_ret
  exact ⟨rfl, 0, rfl⟩
theorem rids_v {W : World} {v : Value} {l : List ByteArray} (h : StrsV W v l) (hl : l.length ≤ 140737488355328) : Calls Tryd.prog 52 #[v] W fun e w' => e = .returned (.bool (RW.asc (RW.bl l))) ∧ ∃ k, w' = W.drewN k := by
  obtain ⟨a, cap, rfl, _, h | ⟨b, o, rfl, _, hc⟩⟩ := h
  · subst h; exact rids_none a cap W
  · exact rids_some b o cap l hl W hc
end Go.Proofs.YtcbckcojebanaaaDoor

/-
  Package royaltyref02: Hashed, Collided; package royaltylaw06: collide: what they return; only new memory is written.
-/
import Derived.Test.YtnlphbfjeekooaaGreatDoorRr1
namespace Go.Proofs.YtnlphbfjeekooaaGreatDoor
open Go.RowKit RG
theorem strs_oneR (W : World) (s : ByteArray) : StrsOwn (W.alloc (.cells #[.string s] 9)) W.heap.size (.slice (some ⟨W.heap.size, 0, none⟩) 1 1) [s] :=
  ⟨rfl, .inr ⟨W.heap.size, 1, #[.string s], rfl, Nat.le_refl _, alloc_at1 _ _, Nat.le_refl _, by unfold maxLen; decide, rfl, rfl⟩⟩
theorem cf_hashedR : ∀ args w, (callFunc 45 args).run Tryz.prog w = .ok (.enter 45 args) w := fun args w => by go_simp
theorem cf_sumR : ∀ args w, (callFunc 60 args).run Tryz.prog w = .ok (.enter 60 args) w := fun args w => by go_simp
namespace RW
theorem hshR_len (K : Nat → Int) : ∀ (n : Nat) (l : List ByteArray), l.length ≤ n → (hshR K l).length ≤ 2 * l.length + 1 ∧ (hshR K l).length ≤ 2 * l.length + (if l.length = 0 then 1 else 0) - (if l.length = 0 then 0 else 1) := by
  intro n
  induction n with
  | zero =>
    intro l h
    obtain rfl : l = [] := List.eq_nil_of_length_eq_zero (by omega)
    rw [hshR_nil]
    simp
  | succ n ih =>
    intro l h
    rcases Nat.lt_or_ge l.length 2 with h2 | h2
    · rcases l with _ | ⟨s, _ | ⟨t, l⟩⟩
      · rw [hshR_nil]; simp
      · rw [hshR_one]; simp
      · simp at h2; omega
    · obtain ⟨_, k2, k3, k4⟩ := lef_spec h2
      rw [hshR_two K h2, List.length_append, List.length_append, List.length_singleton]
      have h3 := (ih (l.take (lef l.length)) (by rw [List.length_take]; omega)).2
      have h4 := (ih (l.drop (lef l.length)) (by rw [List.length_drop]; omega)).2
      rw [List.length_take, if_neg (by omega), if_neg (by omega)] at h3
      rw [List.length_drop, if_neg (by omega), if_neg (by omega)] at h4
      rw [if_neg (by omega), if_neg (by omega)]
      omega
theorem hshR_len2 (K : Nat → Int) (l : List ByteArray) : (hshR K l).length ≤ 2 * l.length + 1 := (hshR_len K _ l (Nat.le_refl _)).1
theorem hshR_size (K : Nat → Int) : ∀ (n : Nat) (l : List ByteArray), l.length ≤ n → (∀ s ∈ l, s.size ≤ 1000000) → ∀ x ∈ hshR K l, x.size ≤ 2000001 := by
  intro n
  induction n with
  | zero =>
    intro l h _ x hx
    obtain rfl : l = [] := List.eq_nil_of_length_eq_zero (by omega)
    rw [hshR_nil, List.mem_singleton] at hx
    subst hx
    decide
  | succ n ih =>
    intro l h hs x hx
    rcases Nat.lt_or_ge l.length 2 with h2 | h2
    · rcases l with _ | ⟨s, _ | ⟨t, l⟩⟩
      · rw [hshR_nil, List.mem_singleton] at hx
        subst hx
        decide
      · rw [hshR_one, List.mem_singleton] at hx
        subst hx
        have h3 := hs s (by simp)
        have h4 := size_list s
        rw [← size_list]
        simp
        simp at h4
        omega
      · simp at h2; omega
    · obtain ⟨_, k2, k3, k4⟩ := lef_spec h2
      rw [hshR_two K h2] at hx
      rcases List.mem_append.1 hx with hx | hx
      · rcases List.mem_append.1 hx with hx | hx
        · exact ih _ (by rw [List.length_take]; omega) (fun s h => hs s (List.mem_of_mem_take h)) x hx
        · exact ih _ (by rw [List.length_drop]; omega) (fun s h => hs s (List.mem_of_mem_drop h)) x hx
      · rw [List.mem_singleton] at hx
        subst hx
        have e1 := size_list (rootR K (l.take (lef l.length)))
        have e2 := size_list (rootR K (l.drop (lef l.length)))
        rw [rootR_size] at e1 e2
        rw [← size_list]
        show (1 :: (_ ++ _) : List UInt8).length ≤ _
        rw [List.length_cons, List.length_append, e1, e2]
        decide
end RW
set_option maxRecDepth 100000 in
set_option maxHeartbeats 8000000 in
theorem hashed_any : ∀ (N : Nat) (v : Value) (l : List ByteArray), l.length ≤ N → l.length ≤ 100000 → (∀ s ∈ l, s.size ≤ 1000000) → ∀ (w : World), StrR w v l →
    Calls Tryz.prog 45 #[v] w fun e w' => ∃ u, e = .returned u ∧ StrsOwn w' w.heap.size u (RW.hshR RW.k0F l) ∧ Below w.heap.size w w' := by
  intro N
  induction N with
  | zero =>
    intro v l hN hl hs w hv
    obtain rfl : l = [] := List.eq_nil_of_length_eq_zero (by omega)
    obtain ⟨a, c, rfl, _, _⟩ := hv
    rw [RW.hshR_nil]
    have hA := hide (alloc_bel (Below.refl w.heap.size w) (Nat.le_refl _) (.cells #[.string ⟨#[]⟩] 9))
    have hO := hide (strs_oneR w ⟨#[]⟩)
    clear hs
    go_enter Tryz.func45, Tryz.ntmps45
    go_wp2
    go_ret
    exact ⟨_, rfl, hO.out, hA.out⟩
  | succ N ih =>
    intro v l hN hl hs w hv
    rcases Nat.lt_or_ge l.length 2 with h2 | h2
    · rcases l with _ | ⟨s, _ | ⟨t, l⟩⟩
      · exact ih v [] (Nat.zero_le _) hl hs w hv
      · rw [RW.hshR_one]
        obtain ⟨g, oo, c, rfl, hc⟩ := strR_cell (W' := w) (j := 0) (r := s) hv rfl
        have hcc := hc w (Below.refl _ _)
        rw [Nat.add_zero] at hcc
        have hss := hs s (by simp)
        have hz : (⟨#[0]⟩ : ByteArray).size + s.size ≤ 9223372036854775807 := by show 1 + s.size ≤ _; omega
        have hA := hide (alloc_bel (Below.refl w.heap.size w) (Nat.le_refl _) (.cells #[.string ((⟨#[0]⟩ : ByteArray) ++ s)] 9))
        have hO := hide (strs_oneR w ((⟨#[0]⟩ : ByteArray) ++ s))
        rw [show (⟨#[0]⟩ : ByteArray) ++ s = ⟨(0 :: s.data.toList).toArray⟩ from RW.bytes_ext (by rw [app_data]; rfl)] at hO
        rw [show ([s] : List ByteArray).length = 1 from rfl]
        clear hs hv hc ih hN hl h2 hss
        go_enter Tryz.func45, Tryz.ntmps45
        go_wp2
        go_ret
        exact ⟨_, rfl, hO.out, hA.out⟩
      · simp at h2; omega
    · rw [RW.hshR_two _ h2]
      obtain ⟨g, oo, c, rfl, hcap, hgb, _⟩ := RowV.at hv (by rintro rfl; simp at h2)
      obtain ⟨n, hn⟩ : ∃ n, n = l.length := ⟨_, rfl⟩
      obtain ⟨_, k2, k3, k4⟩ := RW.lef_spec h2
      have hLe := hide (fun W => left_any l.length h2 (by omega) W)
      rw [← hn] at hLe hcap h2 hv k2 k3 k4 hl ⊢
      obtain ⟨k, hk⟩ : ∃ k, k = RW.lef n := ⟨_, rfl⟩
      rw [← hk] at hLe k2 k3 k4 ⊢
      have hH := hide (str_halves hv hn (Nat.le_of_lt k2))
      have l1 : (l.take k).length = k := by rw [List.length_take]; omega
      have l2 : (l.drop k).length = n - k := by rw [List.length_drop]; omega
      have hH1 := hide (fun W (h : StrR W (.slice (some ⟨g, oo, none⟩) k c) (l.take k)) => ih _ (l.take k) (by omega) (by omega) (fun s hs' => hs s (List.mem_of_mem_take hs')) W h)
      have hH2 := hide (fun W (h : StrR W (.slice (some ⟨g, oo + k, none⟩) (n - k) (c - k)) (l.drop k)) => ih _ (l.drop k) (by omega) (by omega) (fun s hs' => hs s (List.mem_of_mem_drop hs')) W h)
      have hR1 := hide (fun W (h : StrR W (.slice (some ⟨g, oo, none⟩) k c) (l.take k)) => rroot_any _ _ (l.take k) (Nat.le_refl _) (by omega) (fun s hs' => hs s (List.mem_of_mem_take hs')) W h)
      have hR2 := hide (fun W (h : StrR W (.slice (some ⟨g, oo + k, none⟩) (n - k) (c - k)) (l.drop k)) => rroot_any _ _ (l.drop k) (Nat.le_refl _) (by omega) (fun s hs' => hs s (List.mem_of_mem_drop hs')) W h)
      obtain ⟨r1, hr1⟩ : ∃ r, r = RW.rootR RW.k0F (l.take k) := ⟨_, rfl⟩
      obtain ⟨r2, hr2⟩ : ∃ r, r = RW.rootR RW.k0F (l.drop k) := ⟨_, rfl⟩
      obtain ⟨A1, hA1⟩ : ∃ r, r = RW.hshR RW.k0F (l.take k) := ⟨_, rfl⟩
      obtain ⟨A2, hA2⟩ : ∃ r, r = RW.hshR RW.k0F (l.drop k) := ⟨_, rfl⟩
      have hA1l := hide (show A1.length ≤ 200001 by rw [hA1]; have := RW.hshR_len2 RW.k0F (l.take k); omega)
      have hA2l := hide (show A2.length ≤ 200001 by rw [hA2]; have := RW.hshR_len2 RW.k0F (l.drop k); omega)
      have hrs1 := hide (show r1.size = 32 by rw [hr1, RW.rootR_size])
      have hrs2 := hide (show r2.size = 32 by rw [hr2, RW.rootR_size])
      rw [← hr1] at hR1
      rw [← hr2] at hR2
      rw [← hA1] at hH1
      rw [← hA2] at hH2
      rw [← hr1, ← hr2, ← hA1, ← hA2]
      have eS := hide (show ((⟨#[1]⟩ : ByteArray) ++ r1) ++ r2 = ⟨(1 :: (r1.data.toList ++ r2.data.toList)).toArray⟩ from RW.bytes_ext (by rw [app_data, app_data]; rfl))
      obtain ⟨S, hS⟩ : ∃ S, S = ((⟨#[1]⟩ : ByteArray) ++ r1) ++ r2 := ⟨_, rfl⟩
      rw [← eS.out, ← hS]
      have hSH := hide hS
      have hkc : k ≤ c := by omega
      have hne0 : ((n : Int) == 0) = false := by simp; omega
      have hne1 : ((n : Int) == 1) = false := by simp; omega
      clear ih hs hv hn hk hr1 hr2 hA1 hA2 hN l1 l2 hS
      obtain ⟨B, hB⟩ : ∃ B, B = w.heap.size := ⟨_, rfl⟩
      have hBH := hide hB
      have hBle := hide (show B ≤ w.heap.size by rw [hB]; exact Nat.le_refl _)
      rw [← hB]
      clear hB
      go_enter Tryz.func45, Tryz.ntmps45
      go_upto_region 6 with (go_at_call 69; refine (hLe.out _).mono ?_; rintro e w1 ⟨rfl, h⟩; obtain rfl := h.symm)
      refine wp_region_k (fun _ W => Below B w W) (fun _ => True) [3, 7, 8] (.op 0 (.op 1 (.op 2 (.op 4 (.op 5 (.op 6 (.op 3 (.op 7 (.op 8 (.op 9 .nil)))))))))) (by kernel_rfl) (by kernel_rfl) (by rfl) (by kernel_rfl) (show Below B w w by rw [hBH.out]; exact Below.refl _ _).drew trivial ?_
      refine k_val (.slice (some ⟨g, oo, none⟩) n c) (by apply opN; repeat' (first | apply OpAt.z | apply OpAt.s)) (by rfl) (by rfl) (fun _ W hS => op_mv rfl rfl) ?_
      simp only [Act.put, List.setIfInBounds_toArray, List.set_cons_zero, List.set_cons_succ]
      refine k_val (.int .i64 (k : Int)) (by apply opN; repeat' (first | apply OpAt.z | apply OpAt.s)) (by rfl) (by rfl) (fun _ W hS => op_mv rfl rfl) ?_
      simp only [Act.put, List.setIfInBounds_toArray, List.set_cons_zero, List.set_cons_succ]
      refine k_val (.slice (some ⟨g, oo, none⟩) k c) (by apply opN; repeat' (first | apply OpAt.z | apply OpAt.s)) (by rfl) (by rfl) (fun _ W hS => op_hi_sD rfl rfl rfl hkc) ?_
      simp only [Act.put, List.setIfInBounds_toArray, List.set_cons_zero, List.set_cons_succ]
      refine k_val (.slice (some ⟨g, oo, none⟩) n c) (by apply opN; repeat' (first | apply OpAt.z | apply OpAt.s)) (by rfl) (by rfl) (fun _ W hS => op_mv rfl rfl) ?_
      simp only [Act.put, List.setIfInBounds_toArray, List.set_cons_zero, List.set_cons_succ]
      refine k_val (.int .i64 (k : Int)) (by apply opN; repeat' (first | apply OpAt.z | apply OpAt.s)) (by rfl) (by rfl) (fun _ W hS => op_mv rfl rfl) ?_
      simp only [Act.put, List.setIfInBounds_toArray, List.set_cons_zero, List.set_cons_succ]
      refine k_val (.slice (some ⟨g, oo + k, none⟩) (n - k) (c - k)) (by apply opN; repeat' (first | apply OpAt.z | apply OpAt.s)) (by rfl) (by rfl) (fun _ W hS => op_lo_sR rfl rfl rfl k2 hcap) ?_
      simp only [Act.put, List.setIfInBounds_toArray, List.set_cons_zero, List.set_cons_succ]
      refine k_step (fun K' u => K' = fun W => StrsOwn W B u A1) (by apply opN; repeat' (first | apply OpAt.z | apply OpAt.s)) (by rfl) (by rfl) (by rfl) (fun W hC hK => ?_) ?_
      · refine op_x1 rfl rfl rfl cf_hashedR ?_
        refine (hH1.out W (hH.out.1.next (hBH.out ▸ hC : Below w.heap.size w W))).mono ?_
        rintro e w' ⟨u, rfl, h3, h4⟩
        exact ⟨u, rfl, bel_cat hC hBle.out h4, _, own_base h3 (by rw [hBH.out]; exact (hBH.out ▸ hC : Below w.heap.size w W).size), rfl⟩
      rintro K1 u1 rfl
      simp only [Act.put, List.setIfInBounds_toArray, List.set_cons_zero, List.set_cons_succ]
      refine k_step (fun K' u => K' = fun W => StrsOwn W B u1 A1 ∧ StrR W u A2) (by apply opN; repeat' (first | apply OpAt.z | apply OpAt.s)) (by rfl) (by rfl) (by rfl) (fun W hC hK => ?_) ?_
      · refine op_x1 rfl rfl rfl cf_hashedR ?_
        refine (hH2.out W (hH.out.2.next (hBH.out ▸ hC : Below w.heap.size w W))).mono ?_
        rintro e w' ⟨u, rfl, h3, h4⟩
        exact ⟨u, rfl, bel_cat hC hBle.out h4, _, ⟨own_keep hK fun x hx => h4.block _ (own_blk hK hx).2.1, strs_own h3⟩, rfl⟩
      rintro K2 u2 rfl
      simp only [Act.put, List.setIfInBounds_toArray, List.set_cons_zero, List.set_cons_succ]
      refine k_step (fun K' u => K' = fun W => StrsOwn W B u (A1 ++ A2)) (by apply opN; repeat' (first | apply OpAt.z | apply OpAt.s)) (by rfl) (by rfl) (by rfl) (fun W hC hK => ?_) ?_
      · have hBW := Nat.le_trans hBle.out hC.size
        obtain ⟨v', W', hr, h3, h4⟩ := app_slF hK.1 hBW hK.2 (by have := hA1l.out; have := hA2l.out; omega)
        exact xup_val (op_app rfl rfl rfl hr) ⟨hC.trans (chg_bel hK.1 hBW h4), _, h3, rfl⟩
      rintro K3 u3 rfl
      simp only [Act.put, List.setIfInBounds_toArray, List.set_cons_zero, List.set_cons_succ]
      refine k_val (u3) (by apply opN; repeat' (first | apply OpAt.z | apply OpAt.s)) (by rfl) (by rfl) (fun _ W hS => op_asg rfl rfl) ?_
      simp only [Act.put, List.setIfInBounds_toArray, List.set_cons_zero, List.set_cons_succ]
      refine k_nil ?_
      intro W hCW hK
      have hCB := hide (show Below B w W from hCW)
      have hOw := hide (show StrsOwn W B u3 (A1 ++ A2) from hK)
      clear hCW hK
      go_upto_region 7 with fail
      refine wp_region_k (fun _ W' => Below B w W') (fun W' => StrsOwn W' B u3 (A1 ++ A2)) [4, 9, 11, 12] (.op 0 (.op 1 (.op 2 (.op 3 (.op 6 (.op 7 (.op 8 (.op 4 (.op 5 (.op 9 (.op 10 (.op 11 (.op 12 (.op 13 .nil)))))))))))))) (by kernel_rfl) (by kernel_rfl) (by rfl) (by kernel_rfl) hCB.out.drew (own_keep hOw.out fun x hx => rfl) ?_
      refine k_val (u3) (by apply opN; repeat' (first | apply OpAt.z | apply OpAt.s)) (by rfl) (by rfl) (fun _ W hS => op_mv rfl rfl) ?_
      simp only [Act.put, List.setIfInBounds_toArray, List.set_cons_zero, List.set_cons_succ]
      refine k_val (.slice (some ⟨g, oo, none⟩) n c) (by apply opN; repeat' (first | apply OpAt.z | apply OpAt.s)) (by rfl) (by rfl) (fun _ W hS => op_mv rfl rfl) ?_
      simp only [Act.put, List.setIfInBounds_toArray, List.set_cons_zero, List.set_cons_succ]
      refine k_val (.int .i64 (k : Int)) (by apply opN; repeat' (first | apply OpAt.z | apply OpAt.s)) (by rfl) (by rfl) (fun _ W hS => op_mv rfl rfl) ?_
      simp only [Act.put, List.setIfInBounds_toArray, List.set_cons_zero, List.set_cons_succ]
      refine k_val (.slice (some ⟨g, oo, none⟩) k c) (by apply opN; repeat' (first | apply OpAt.z | apply OpAt.s)) (by rfl) (by rfl) (fun _ W hS => op_hi_sD rfl rfl rfl hkc) ?_
      simp only [Act.put, List.setIfInBounds_toArray, List.set_cons_zero, List.set_cons_succ]
      refine k_val (.slice (some ⟨g, oo, none⟩) n c) (by apply opN; repeat' (first | apply OpAt.z | apply OpAt.s)) (by rfl) (by rfl) (fun _ W hS => op_mv rfl rfl) ?_
      simp only [Act.put, List.setIfInBounds_toArray, List.set_cons_zero, List.set_cons_succ]
      refine k_val (.int .i64 (k : Int)) (by apply opN; repeat' (first | apply OpAt.z | apply OpAt.s)) (by rfl) (by rfl) (fun _ W hS => op_mv rfl rfl) ?_
      simp only [Act.put, List.setIfInBounds_toArray, List.set_cons_zero, List.set_cons_succ]
      refine k_val (.slice (some ⟨g, oo + k, none⟩) (n - k) (c - k)) (by apply opN; repeat' (first | apply OpAt.z | apply OpAt.s)) (by rfl) (by rfl) (fun _ W hS => op_lo_sR rfl rfl rfl k2 hcap) ?_
      simp only [Act.put, List.setIfInBounds_toArray, List.set_cons_zero, List.set_cons_succ]
      refine k_step (fun K' u => u = .string r1 ∧ K' = fun W => StrsOwn W B u3 (A1 ++ A2)) (by apply opN; repeat' (first | apply OpAt.z | apply OpAt.s)) (by rfl) (by rfl) (by rfl) (fun W hC hK => ?_) ?_
      · refine op_x1 rfl rfl rfl cf_rootR ?_
        refine (hR1.out W (hH.out.1.next (hBH.out ▸ hC : Below w.heap.size w W))).mono ?_
        rintro e w' ⟨rfl, h4⟩
        exact ⟨_, rfl, bel_cat hC hBle.out h4, _, own_keep hK fun x hx => h4.block _ (own_blk hK hx).2.1, rfl, rfl⟩
      rintro K4 u4 ⟨rfl, rfl⟩
      simp only [Act.put, List.setIfInBounds_toArray, List.set_cons_zero, List.set_cons_succ]
      refine k_val (.string ((⟨#[1]⟩ : ByteArray) ++ r1)) (by apply opN; repeat' (first | apply OpAt.z | apply OpAt.s)) (by rfl) (by rfl) (fun _ W hS => op_addsD rfl rfl rfl (by show 1 + r1.size ≤ _; rw [hrs1.out]; decide)) ?_
      simp only [Act.put, List.setIfInBounds_toArray, List.set_cons_zero, List.set_cons_succ]
      refine k_step (fun K' u => u = .string r2 ∧ K' = fun W => StrsOwn W B u3 (A1 ++ A2)) (by apply opN; repeat' (first | apply OpAt.z | apply OpAt.s)) (by rfl) (by rfl) (by rfl) (fun W hC hK => ?_) ?_
      · refine op_x1 rfl rfl rfl cf_rootR ?_
        refine (hR2.out W (hH.out.2.next (hBH.out ▸ hC : Below w.heap.size w W))).mono ?_
        rintro e w' ⟨rfl, h4⟩
        exact ⟨_, rfl, bel_cat hC hBle.out h4, _, own_keep hK fun x hx => h4.block _ (own_blk hK hx).2.1, rfl, rfl⟩
      rintro K5 u5 ⟨rfl, rfl⟩
      simp only [Act.put, List.setIfInBounds_toArray, List.set_cons_zero, List.set_cons_succ]
      refine k_val (.string S) (by apply opN; repeat' (first | apply OpAt.z | apply OpAt.s)) (by rfl) (by rfl) (fun _ W hS => by rw [hSH.out]; exact op_addsD rfl rfl rfl (by rw [app_size, hrs1.out, hrs2.out]; decide)) ?_
      simp only [Act.put, List.setIfInBounds_toArray, List.set_cons_zero, List.set_cons_succ]
      refine k_step (fun K' u => ∃ b, u = .slice (some ⟨b, 0, none⟩) 1 1 ∧ K' = fun W => ∃ W0, StrsOwn W0 B u3 (A1 ++ A2) ∧ Below B w W0 ∧ W0.heap.size = b ∧ W = W0.alloc (.cells #[.string S] 9)) (by apply opN; repeat' (first | apply OpAt.z | apply OpAt.s)) (by rfl) (by rfl) (by rfl) (fun W hC hK => ?_) ?_
      · have hA := alloc_bel (Below.refl W.heap.size W) (Nat.le_refl _) (.cells #[.string S] 9)
        exact xup_val (op_bs1D rfl rfl) ⟨bel_cat hC hBle.out hA, _, ⟨W, hK, hC, rfl, rfl⟩, _, rfl, rfl⟩
      rintro K6 u6 ⟨b6, rfl, rfl⟩
      simp only [Act.put, List.setIfInBounds_toArray, List.set_cons_zero, List.set_cons_succ]
      refine k_step (fun K' u => K' = fun W => StrsOwn W B u (A1 ++ A2 ++ [S])) (by apply opN; repeat' (first | apply OpAt.z | apply OpAt.s)) (by rfl) (by rfl) (by rfl) (fun W hC hK => ?_) ?_
      · obtain ⟨W0, hk0, hb0, rfl, rfl⟩ := hK
        have hBW := Nat.le_trans hBle.out hb0.size
        obtain ⟨v', W', hr, h3, h4, _⟩ := run_app_str S hk0 hBW (by have := hA1l.out; have := hA2l.out; rw [List.length_append]; omega)
        exact xup_val (op_app rfl rfl rfl hr) ⟨hb0.trans (chg_bel hk0 hBW h4), _, h3, rfl⟩
      rintro K7 u7 rfl
      simp only [Act.put, List.setIfInBounds_toArray, List.set_cons_zero, List.set_cons_succ]
      refine k_val (u7) (by apply opN; repeat' (first | apply OpAt.z | apply OpAt.s)) (by rfl) (by rfl) (fun _ W hS => op_asg rfl rfl) ?_
      simp only [Act.put, List.setIfInBounds_toArray, List.set_cons_zero, List.set_cons_succ]
      refine k_nil ?_
      intro W2 hCW hK
      have hCB2 := hide (show Below B w W2 from hCW)
      have hOw2 := hide (show StrsOwn W2 B u7 (A1 ++ A2 ++ [S]) from hK)
      clear hCW hK
      go_wp2
      go_ret
      exact ⟨_, rfl, hOw2.out, hCB2.out⟩
set_option maxRecDepth 100000 in
set_option maxHeartbeats 8000000 in
theorem collided_any (v v2 : Value) (a b : List ByteArray) (w : World) (hl : StrR w v a) (hm : StrR w v2 b) (hll : a.length ≤ 9223372036854775807) (hmm : b.length ≤ 9223372036854775807) (hsa : ∀ s ∈ a, s.size ≤ 1099511627776) (hsb : ∀ s ∈ b, s.size ≤ 1099511627776) :
    Calls Tryz.prog 44 #[v, v2] w fun e w' => (∃ r, e = .returned (.bool r) ∧ (RW.Coll RW.k0F a b → r = true)) ∧ Below w.heap.size w w' := by
  have hlA := hide hl
  have hmA := hide hm
  have hsaH := hide hsa
  have hsbH := hide hsb
  obtain ⟨la, lc, rfl, _, _⟩ := id hl
  obtain ⟨ma, mc, rfl, _, _⟩ := id hm
  obtain ⟨n, hn⟩ : ∃ n, n = a.length := ⟨_, rfl⟩
  obtain ⟨m, hq⟩ : ∃ n, n = b.length := ⟨_, rfl⟩
  have hnH := hide hn
  have hqH := hide hq
  rw [← hn] at hlA hll ⊢
  rw [← hq] at hmA hmm ⊢
  clear hl hm hn hq hsa hsb
  go_enter Tryz.func44, Tryz.ntmps44
  go_wp2
  go_loopw [5, 6] (fun i _ wr => ∃ (j : Nat), i = .int .i64 j ∧ j ≤ n ∧ Hid ((∀ (i k : Nat) (x y : ByteArray), i < j → a[i]? = some x → b[k]? = some y → ¬ (x ≠ y ∧ RW.sha RW.k0F x.data.toList = RW.sha RW.k0F y.data.toList)) ∧ Below w.heap.size w wr)) (fun i _ _ => n - (intOf i).toNat)
  case atStart => exact ⟨0, rfl, Nat.zero_le _, (fun i k x y h => absurd h (Nat.not_lt_zero _)), Below.refl _ _⟩
  case round =>
    obtain ⟨j, rfl, hj, hQ⟩ := hrel
    obtain ⟨wo, hwo⟩ : ∃ wo, wo = wr := ⟨_, rfl⟩
    subst hwo
    by_cases hjn : j < n
    · obtain ⟨x, hx⟩ : ∃ x, a[j]? = some x := ⟨_, List.getElem?_eq_getElem (by rw [← hnH.out]; exact hjn)⟩
      obtain ⟨g0, o0, c0, e', hcell⟩ := strR_cell (W' := wo) (by have h := hlA.out; rw [hnH.out] at h; exact h) hx
      cases e'
      have hcellH := hide hcell
      have hxH := hide hx
      have hSx := hide (fun W => rsum_any x (hsaH.out x (List.mem_of_getElem? hx)) W)
      obtain ⟨SX, hSX⟩ : ∃ s : ByteArray, s = ⟨(RW.sha RW.k0F x.data.toList).toArray⟩ := ⟨_, rfl⟩
      rw [← hSX] at hSx
      have hSXH := hide hSX
      clear hcell hx hSX
      go_wp2
      go_loopw [6] (fun k wr => ∃ (q : Nat), k = .int .i64 q ∧ q ≤ m ∧ Hid ((∀ (k : Nat) (y : ByteArray), k < q → b[k]? = some y → ¬ (x ≠ y ∧ RW.sha RW.k0F x.data.toList = RW.sha RW.k0F y.data.toList)) ∧ Below w.heap.size w wr)) (fun k _ => m - (intOf k).toNat)
      case atStart => exact ⟨0, rfl, Nat.zero_le _, (fun k y h => absurd h (Nat.not_lt_zero _)), hQ.out.2⟩
      case round =>
        obtain ⟨q, rfl, hq, hT⟩ := hrel
        obtain ⟨wp, hwp⟩ : ∃ wp, wp = wr := ⟨_, rfl⟩
        subst hwp
        by_cases hqm : q < m
        · obtain ⟨y, hy⟩ : ∃ y, b[q]? = some y := ⟨_, List.getElem?_eq_getElem (by rw [← hqH.out]; exact hqm)⟩
          obtain ⟨g1, o1, c1, e', hcell⟩ := strR_cell (W' := wp) (by have h := hmA.out; rw [hqH.out] at h; exact h) hy
          cases e'
          have hcell2H := hide hcell
          have hstep := hide (fun (h : ¬ (x ≠ y ∧ RW.sha RW.k0F x.data.toList = RW.sha RW.k0F y.data.toList)) => (show ∀ (k : Nat) (z : ByteArray), k < q + 1 → b[k]? = some z → ¬ (x ≠ z ∧ RW.sha RW.k0F x.data.toList = RW.sha RW.k0F z.data.toList) from fun k z hk hz => by
            rcases Nat.lt_or_eq_of_le (Nat.le_of_lt_succ hk) with h3 | h3
            · exact hT.out.1 k z h3 hz
            · subst h3
              rw [hy] at hz
              cases hz
              exact h))
          have hSy := hide (fun W => rsum_any y (hsbH.out y (List.mem_of_getElem? hy)) W)
          obtain ⟨SY, hSY⟩ : ∃ s : ByteArray, s = ⟨(RW.sha RW.k0F y.data.toList).toArray⟩ := ⟨_, rfl⟩
          rw [← hSY] at hSy
          have hSYH := hide hSY
          clear hcell hy hSY
          go_upto_region 7 with fail
          by_cases hxy : x = y
          · have hno := hide (hstep.out fun h => h.1 hxy)
            have hxyH := hide hxy
            clear hxy hSy hSYH
            refine wp_region_k (fun _ W => Below w.heap.size w W) (fun _ => True) [] (.op 0 (.op 1 (.op 2 (.op 3 (.op 4 (.op 5 (.op 6 (.op 7 (.op 8 (.op 9 (.op 10 (.op 11 (.op 12 (.op 13 (.op 14 (.op 15 (.op 16 (.op 17 (.op 18 (.op 19 (.op 20 (.op 21 .nil)))))))))))))))))))))) (by kernel_rfl) (by kernel_rfl) (by rfl) (by kernel_rfl) hT.out.2.drew trivial ?_
            refine k_val (.slice (some ⟨g0, o0, none⟩) n lc) (by apply opN; repeat' (first | apply OpAt.z | apply OpAt.s)) (by rfl) (by rfl) (fun _ W hS => op_mv rfl rfl) ?_
            simp only [Act.put, List.setIfInBounds_toArray, List.set_cons_zero, List.set_cons_succ]
            refine k_val (.int .i64 (j : Int)) (by apply opN; repeat' (first | apply OpAt.z | apply OpAt.s)) (by rfl) (by rfl) (fun _ W hS => op_mv rfl rfl) ?_
            simp only [Act.put, List.setIfInBounds_toArray, List.set_cons_zero, List.set_cons_succ]
            refine k_val (.pointer (some ⟨g0, o0 + j, none⟩)) (by apply opN; repeat' (first | apply OpAt.z | apply OpAt.s)) (by rfl) (by rfl) (fun _ W hS => op_idx_s rfl rfl rfl hjn) ?_
            simp only [Act.put, List.setIfInBounds_toArray, List.set_cons_zero, List.set_cons_succ]
            refine k_val (.string x) (by apply opN; repeat' (first | apply OpAt.z | apply OpAt.s)) (by rfl) (by rfl) (fun _ W hS => op_ld rfl rfl (str_ld (hcellH.out W hS))) ?_
            simp only [Act.put, List.setIfInBounds_toArray, List.set_cons_zero, List.set_cons_succ]
            refine k_val (.slice (some ⟨g1, o1, none⟩) m mc) (by apply opN; repeat' (first | apply OpAt.z | apply OpAt.s)) (by rfl) (by rfl) (fun _ W hS => op_mv rfl rfl) ?_
            simp only [Act.put, List.setIfInBounds_toArray, List.set_cons_zero, List.set_cons_succ]
            refine k_val (.int .i64 (q : Int)) (by apply opN; repeat' (first | apply OpAt.z | apply OpAt.s)) (by rfl) (by rfl) (fun _ W hS => op_mv rfl rfl) ?_
            simp only [Act.put, List.setIfInBounds_toArray, List.set_cons_zero, List.set_cons_succ]
            refine k_val (.pointer (some ⟨g1, o1 + q, none⟩)) (by apply opN; repeat' (first | apply OpAt.z | apply OpAt.s)) (by rfl) (by rfl) (fun _ W hS => op_idx_s rfl rfl rfl hqm) ?_
            simp only [Act.put, List.setIfInBounds_toArray, List.set_cons_zero, List.set_cons_succ]
            refine k_val (.string y) (by apply opN; repeat' (first | apply OpAt.z | apply OpAt.s)) (by rfl) (by rfl) (fun _ W hS => op_ld rfl rfl (str_ld (hcell2H.out W hS))) ?_
            simp only [Act.put, List.setIfInBounds_toArray, List.set_cons_zero, List.set_cons_succ]
            refine k_val (.bool false) (by apply opN; repeat' (first | apply OpAt.z | apply OpAt.s)) (by rfl) (by rfl) (fun _ W hS => op_neqs rfl rfl rfl (by simp [hxyH.out])) ?_
            simp only [Act.put, List.setIfInBounds_toArray, List.set_cons_zero, List.set_cons_succ]
            refine k_val (.bool false) (by apply opN; repeat' (first | apply OpAt.z | apply OpAt.s)) (by rfl) (by rfl) (fun _ W hS => op_mv rfl rfl) ?_
            simp only [Act.put, List.setIfInBounds_toArray, List.set_cons_zero, List.set_cons_succ]
            refine k_skip (by apply opN; repeat' (first | apply OpAt.z | apply OpAt.s)) (by rfl) (by rfl) ?_
            simp only [Act.put, List.setIfInBounds_toArray, List.set_cons_zero, List.set_cons_succ]
            refine k_skip (by apply opN; repeat' (first | apply OpAt.z | apply OpAt.s)) (by rfl) (by rfl) ?_
            simp only [Act.put, List.setIfInBounds_toArray, List.set_cons_zero, List.set_cons_succ]
            refine k_skip (by apply opN; repeat' (first | apply OpAt.z | apply OpAt.s)) (by rfl) (by rfl) ?_
            simp only [Act.put, List.setIfInBounds_toArray, List.set_cons_zero, List.set_cons_succ]
            refine k_skip (by apply opN; repeat' (first | apply OpAt.z | apply OpAt.s)) (by rfl) (by rfl) ?_
            simp only [Act.put, List.setIfInBounds_toArray, List.set_cons_zero, List.set_cons_succ]
            refine k_skip (by apply opN; repeat' (first | apply OpAt.z | apply OpAt.s)) (by rfl) (by rfl) ?_
            simp only [Act.put, List.setIfInBounds_toArray, List.set_cons_zero, List.set_cons_succ]
            refine k_skip (by apply opN; repeat' (first | apply OpAt.z | apply OpAt.s)) (by rfl) (by rfl) ?_
            simp only [Act.put, List.setIfInBounds_toArray, List.set_cons_zero, List.set_cons_succ]
            refine k_skip (by apply opN; repeat' (first | apply OpAt.z | apply OpAt.s)) (by rfl) (by rfl) ?_
            simp only [Act.put, List.setIfInBounds_toArray, List.set_cons_zero, List.set_cons_succ]
            refine k_skip (by apply opN; repeat' (first | apply OpAt.z | apply OpAt.s)) (by rfl) (by rfl) ?_
            simp only [Act.put, List.setIfInBounds_toArray, List.set_cons_zero, List.set_cons_succ]
            refine k_skip (by apply opN; repeat' (first | apply OpAt.z | apply OpAt.s)) (by rfl) (by rfl) ?_
            simp only [Act.put, List.setIfInBounds_toArray, List.set_cons_zero, List.set_cons_succ]
            refine k_skip (by apply opN; repeat' (first | apply OpAt.z | apply OpAt.s)) (by rfl) (by rfl) ?_
            simp only [Act.put, List.setIfInBounds_toArray, List.set_cons_zero, List.set_cons_succ]
            refine k_skip (by apply opN; repeat' (first | apply OpAt.z | apply OpAt.s)) (by rfl) (by rfl) ?_
            simp only [Act.put, List.setIfInBounds_toArray, List.set_cons_zero, List.set_cons_succ]
            refine k_val (.bool false) (by apply opN; repeat' (first | apply OpAt.z | apply OpAt.s)) (by rfl) (by rfl) (fun _ W hS => op_pk rfl rfl (hy := rfl) rfl rfl) ?_
            simp only [Act.put, List.setIfInBounds_toArray, List.set_cons_zero, List.set_cons_succ]
            refine k_nil ?_
            intro W hCW _
            have hBW := hide (show Below w.heap.size w W from hCW)
            clear hCW
            go_wp2
            go_roundw
            case rel => exact ⟨q + 1, by go_num, by omega, hno.out, hBW.out⟩
            case measure => simp [intOf]; omega
          · have hxyH := hide hxy
            obtain ⟨r, hr⟩ : ∃ r, decide (SX = SY) = r := ⟨_, rfl⟩
            have hrH := hide hr
            clear hxy hr
            refine wp_region_k (fun _ W => Below w.heap.size w W) (fun _ => True) [14, 19] (.op 0 (.op 1 (.op 2 (.op 3 (.op 4 (.op 5 (.op 6 (.op 7 (.op 8 (.op 9 (.op 10 (.op 11 (.op 12 (.op 13 (.op 15 (.op 16 (.op 17 (.op 18 (.op 14 (.op 19 (.op 20 (.op 21 .nil)))))))))))))))))))))) (by kernel_rfl) (by kernel_rfl) (by rfl) (by kernel_rfl) hT.out.2.drew trivial ?_
            refine k_val (.slice (some ⟨g0, o0, none⟩) n lc) (by apply opN; repeat' (first | apply OpAt.z | apply OpAt.s)) (by rfl) (by rfl) (fun _ W hS => op_mv rfl rfl) ?_
            simp only [Act.put, List.setIfInBounds_toArray, List.set_cons_zero, List.set_cons_succ]
            refine k_val (.int .i64 (j : Int)) (by apply opN; repeat' (first | apply OpAt.z | apply OpAt.s)) (by rfl) (by rfl) (fun _ W hS => op_mv rfl rfl) ?_
            simp only [Act.put, List.setIfInBounds_toArray, List.set_cons_zero, List.set_cons_succ]
            refine k_val (.pointer (some ⟨g0, o0 + j, none⟩)) (by apply opN; repeat' (first | apply OpAt.z | apply OpAt.s)) (by rfl) (by rfl) (fun _ W hS => op_idx_s rfl rfl rfl hjn) ?_
            simp only [Act.put, List.setIfInBounds_toArray, List.set_cons_zero, List.set_cons_succ]
            refine k_val (.string x) (by apply opN; repeat' (first | apply OpAt.z | apply OpAt.s)) (by rfl) (by rfl) (fun _ W hS => op_ld rfl rfl (str_ld (hcellH.out W hS))) ?_
            simp only [Act.put, List.setIfInBounds_toArray, List.set_cons_zero, List.set_cons_succ]
            refine k_val (.slice (some ⟨g1, o1, none⟩) m mc) (by apply opN; repeat' (first | apply OpAt.z | apply OpAt.s)) (by rfl) (by rfl) (fun _ W hS => op_mv rfl rfl) ?_
            simp only [Act.put, List.setIfInBounds_toArray, List.set_cons_zero, List.set_cons_succ]
            refine k_val (.int .i64 (q : Int)) (by apply opN; repeat' (first | apply OpAt.z | apply OpAt.s)) (by rfl) (by rfl) (fun _ W hS => op_mv rfl rfl) ?_
            simp only [Act.put, List.setIfInBounds_toArray, List.set_cons_zero, List.set_cons_succ]
            refine k_val (.pointer (some ⟨g1, o1 + q, none⟩)) (by apply opN; repeat' (first | apply OpAt.z | apply OpAt.s)) (by rfl) (by rfl) (fun _ W hS => op_idx_s rfl rfl rfl hqm) ?_
            simp only [Act.put, List.setIfInBounds_toArray, List.set_cons_zero, List.set_cons_succ]
            refine k_val (.string y) (by apply opN; repeat' (first | apply OpAt.z | apply OpAt.s)) (by rfl) (by rfl) (fun _ W hS => op_ld rfl rfl (str_ld (hcell2H.out W hS))) ?_
            simp only [Act.put, List.setIfInBounds_toArray, List.set_cons_zero, List.set_cons_succ]
            refine k_val (.bool true) (by apply opN; repeat' (first | apply OpAt.z | apply OpAt.s)) (by rfl) (by rfl) (fun _ W hS => op_neqs rfl rfl rfl (by simp [hxyH.out])) ?_
            simp only [Act.put, List.setIfInBounds_toArray, List.set_cons_zero, List.set_cons_succ]
            refine k_val (.bool true) (by apply opN; repeat' (first | apply OpAt.z | apply OpAt.s)) (by rfl) (by rfl) (fun _ W hS => op_mv rfl rfl) ?_
            simp only [Act.put, List.setIfInBounds_toArray, List.set_cons_zero, List.set_cons_succ]
            refine k_val (.slice (some ⟨g0, o0, none⟩) n lc) (by apply opN; repeat' (first | apply OpAt.z | apply OpAt.s)) (by rfl) (by rfl) (fun _ W hS => op_mv rfl rfl) ?_
            simp only [Act.put, List.setIfInBounds_toArray, List.set_cons_zero, List.set_cons_succ]
            refine k_val (.int .i64 (j : Int)) (by apply opN; repeat' (first | apply OpAt.z | apply OpAt.s)) (by rfl) (by rfl) (fun _ W hS => op_mv rfl rfl) ?_
            simp only [Act.put, List.setIfInBounds_toArray, List.set_cons_zero, List.set_cons_succ]
            refine k_val (.pointer (some ⟨g0, o0 + j, none⟩)) (by apply opN; repeat' (first | apply OpAt.z | apply OpAt.s)) (by rfl) (by rfl) (fun _ W hS => op_idx_s rfl rfl rfl hjn) ?_
            simp only [Act.put, List.setIfInBounds_toArray, List.set_cons_zero, List.set_cons_succ]
            refine k_val (.string x) (by apply opN; repeat' (first | apply OpAt.z | apply OpAt.s)) (by rfl) (by rfl) (fun _ W hS => op_ld rfl rfl (str_ld (hcellH.out W hS))) ?_
            simp only [Act.put, List.setIfInBounds_toArray, List.set_cons_zero, List.set_cons_succ]
            refine k_val (.slice (some ⟨g1, o1, none⟩) m mc) (by apply opN; repeat' (first | apply OpAt.z | apply OpAt.s)) (by rfl) (by rfl) (fun _ W hS => op_mv rfl rfl) ?_
            simp only [Act.put, List.setIfInBounds_toArray, List.set_cons_zero, List.set_cons_succ]
            refine k_val (.int .i64 (q : Int)) (by apply opN; repeat' (first | apply OpAt.z | apply OpAt.s)) (by rfl) (by rfl) (fun _ W hS => op_mv rfl rfl) ?_
            simp only [Act.put, List.setIfInBounds_toArray, List.set_cons_zero, List.set_cons_succ]
            refine k_val (.pointer (some ⟨g1, o1 + q, none⟩)) (by apply opN; repeat' (first | apply OpAt.z | apply OpAt.s)) (by rfl) (by rfl) (fun _ W hS => op_idx_s rfl rfl rfl hqm) ?_
            simp only [Act.put, List.setIfInBounds_toArray, List.set_cons_zero, List.set_cons_succ]
            refine k_val (.string y) (by apply opN; repeat' (first | apply OpAt.z | apply OpAt.s)) (by rfl) (by rfl) (fun _ W hS => op_ld rfl rfl (str_ld (hcell2H.out W hS))) ?_
            simp only [Act.put, List.setIfInBounds_toArray, List.set_cons_zero, List.set_cons_succ]
            refine k_step (fun K' u => u = .string SX ∧ K' = fun _ => True) (by apply opN; repeat' (first | apply OpAt.z | apply OpAt.s)) (by rfl) (by rfl) (by rfl) (fun W hC hK => ?_) ?_
            · refine op_x1 rfl rfl rfl cf_sumR ?_
              refine (hSx.out W).mono ?_
              rintro e w' ⟨rfl, h4⟩
              exact ⟨_, rfl, bel_cat hC (Nat.le_refl _) h4, _, trivial, rfl, rfl⟩
            rintro K1 u1 ⟨rfl, rfl⟩
            simp only [Act.put, List.setIfInBounds_toArray, List.set_cons_zero, List.set_cons_succ]
            refine k_step (fun K' u => u = .string SY ∧ K' = fun _ => True) (by apply opN; repeat' (first | apply OpAt.z | apply OpAt.s)) (by rfl) (by rfl) (by rfl) (fun W hC hK => ?_) ?_
            · refine op_x1 rfl rfl rfl cf_sumR ?_
              refine (hSy.out W).mono ?_
              rintro e w' ⟨rfl, h4⟩
              exact ⟨_, rfl, bel_cat hC (Nat.le_refl _) h4, _, trivial, rfl, rfl⟩
            rintro K2 u2 ⟨rfl, rfl⟩
            simp only [Act.put, List.setIfInBounds_toArray, List.set_cons_zero, List.set_cons_succ]
            refine k_val (.bool r) (by apply opN; repeat' (first | apply OpAt.z | apply OpAt.s)) (by rfl) (by rfl) (fun _ W hS => op_eqS rfl rfl rfl hrH.out) ?_
            simp only [Act.put, List.setIfInBounds_toArray, List.set_cons_zero, List.set_cons_succ]
            refine k_val (.bool r) (by apply opN; repeat' (first | apply OpAt.z | apply OpAt.s)) (by rfl) (by rfl) (fun _ W hS => op_pk rfl rfl rfl rfl rfl) ?_
            simp only [Act.put, List.setIfInBounds_toArray, List.set_cons_zero, List.set_cons_succ]
            refine k_nil ?_
            intro W hCW _
            have hBW := hide (show Below w.heap.size w W from hCW)
            clear hCW
            cases r with
            | true =>
              go_wp2
              go_ret
              exact ⟨⟨true, rfl, fun _ => rfl⟩, hBW.out⟩
            | false =>
              have hno := hide (hstep.out fun h => by
                have h2 := hrH.out
                rw [decide_eq_false_iff_not] at h2
                exact h2 (by rw [hSXH.out, hSYH.out, h.2]))
              go_wp2
              go_roundw
              case rel => exact ⟨q + 1, by go_num, by omega, hno.out, hBW.out⟩
              case measure => simp [intOf]; omega
        · obtain rfl : q = m := by omega
          have hNo := hide (show ∀ (i k : Nat) (x' y : ByteArray), i < j + 1 → a[i]? = some x' → b[k]? = some y → ¬ (x' ≠ y ∧ RW.sha RW.k0F x'.data.toList = RW.sha RW.k0F y.data.toList) from fun i k x' y hi hx' hy => by
            rcases Nat.lt_or_eq_of_le (Nat.le_of_lt_succ hi) with h3 | h3
            · exact hQ.out.1 i k x' y h3 hx' hy
            · subst h3
              rw [hxH.out] at hx'
              cases hx'
              exact hT.out.1 k y (by rw [hqH.out]; exact (List.getElem?_eq_some_iff.1 hy).1) hy)
          go_wp2
          go_roundw
          case rel => exact ⟨j + 1, by go_num, by omega, hNo.out, hT.out.2⟩
          case measure => simp [intOf]; omega
    · obtain rfl : n = j := by omega
      have hNo := hide (show ¬ RW.Coll RW.k0F a b from fun ⟨x, hx, y, hy, hh⟩ => by
        obtain ⟨i, hi⟩ := List.getElem?_of_mem hx
        obtain ⟨k, hk⟩ := List.getElem?_of_mem hy
        exact hQ.out.1 i k x y (by rw [hnH.out]; exact (List.getElem?_eq_some_iff.1 hi).1) hi hk hh)
      go_wp2
      go_ret
      exact ⟨⟨false, rfl, fun h => absurd h hNo.out⟩, hQ.out.2⟩
set_option maxRecDepth 100000 in
theorem collide_any (v v2 : Value) (a b : List ByteArray) (w : World) (hl : StrR w v a) (hm : StrR w v2 b) (hll : a.length ≤ 100000) (hmm : b.length ≤ 100000) (hsa : ∀ s ∈ a, s.size ≤ 1000000) (hsb : ∀ s ∈ b, s.size ≤ 1000000) :
    Calls Tryz.prog 17 #[v, v2] w fun e w' => (∃ r, e = .returned (.bool r) ∧ (RW.Coll RW.k0F (RW.hshR RW.k0F a) (RW.hshR RW.k0F b) → r = true)) ∧ Below w.heap.size w w' := by
  have h1 := hide (hashed_any _ v a (Nat.le_refl _) hll hsa w hl)
  have h2 := hide (fun W (h : Below w.heap.size w W) => hashed_any _ v2 b (Nat.le_refl _) hmm hsb W (hm.next h))
  have h3 := hide (fun W u1 u2 (h1 : StrR W u1 (RW.hshR RW.k0F a)) (h2 : StrR W u2 (RW.hshR RW.k0F b)) => collided_any u1 u2 _ _ W h1 h2 (by have := RW.hshR_len2 RW.k0F a; omega) (by have := RW.hshR_len2 RW.k0F b; omega) (fun s hs => by have := RW.hshR_size RW.k0F _ a (Nat.le_refl _) hsa s hs; omega) (fun s hs => by have := RW.hshR_size RW.k0F _ b (Nat.le_refl _) hsb s hs; omega))
  obtain ⟨a1, c1, rfl, _, _⟩ := hl
  obtain ⟨a2, c2, rfl, _, _⟩ := hm
  clear hsa hsb
  have tok1 : True := trivial
  go_enter Tryz.func17, Tryz.ntmps17
  go_wp2_with (first
    | (go_at_call 45; have _t := tok1; refine h1.out.mono ?_; rintro e w1 ⟨u1, rfl, g1, g2⟩; have k1 := hide (And.intro (strs_own g1) g2); clear g1 g2 tok1 _t)
    | (go_at_call 45; refine (h2.out _ k1.out.2).mono ?_; rintro e w2 ⟨u2, rfl, g1, g2⟩; have k2 := hide (And.intro (k1.out.1.next g2) (And.intro (strs_own g1) (bel_cat k1.out.2 (Nat.le_refl _) g2))); clear g1 g2)
    | (go_at_call 44; refine (h3.out _ _ _ k2.out.1 k2.out.2.1).mono ?_; rintro e w3 ⟨⟨r, rfl, hr⟩, g⟩; have k3 := hide (And.intro hr (bel_cat k2.out.2.2 (Nat.le_refl _) g)); clear hr g))
  go_ret
  exact ⟨⟨_, rfl, k3.out.1⟩, k3.out.2⟩
end Go.Proofs.YtnlphbfjeekooaaGreatDoor

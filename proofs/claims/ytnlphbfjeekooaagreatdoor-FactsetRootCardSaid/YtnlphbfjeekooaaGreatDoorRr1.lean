/-
  Package royaltyref02: Left, Leaf, Node, Root: what they return; only new memory is written.
-/
import Derived.Test.YtnlphbfjeekooaaGreatDoorMP
import Derived.Test.YtnlphbfjeekooaaGreatDoorMU
namespace Go.Proofs.YtnlphbfjeekooaaGreatDoor
open Go.RowKit RG
namespace RW
theorem lefF_step {f k n : Nat} (h : 2 * k < n) (hf : n ≤ k + f) : ∃ g, f = g + 1 ∧ lefF f k n = lefF g (2 * k) n := by
  rcases f with _ | f
  · omega
  · exact ⟨f, rfl, by conv => lhs; unfold lefF
                      rw [if_pos h]⟩
theorem lefF_stop {f k n : Nat} (h : ¬ 2 * k < n) : lefF f k n = k := by
  rcases f with _ | f
  · rfl
  · unfold lefF
    rw [if_neg h]
end RW
set_option maxRecDepth 100000 in
set_option maxHeartbeats 2000000 in
theorem left_any (n : Nat) (h2 : 2 ≤ n) (hn : n ≤ 1000000) (w : World) : Calls Tryz.prog 69 #[.int .i64 n] w fun e w' => e = .returned (.int .i64 (RW.lef n)) ∧ w' = w := by
  obtain ⟨L, hL⟩ : ∃ L, L = RW.lef n := ⟨_, rfl⟩
  have hLH := hide (show RW.lefF n 1 n = L by rw [hL]; rfl)
  rw [← hL]
  clear hL
  go_enter Tryz.func69, Tryz.ntmps69
  go_wp2
  go_loopw [3] (fun i wr => ∃ (k : Nat), i = .int .i64 k ∧ 1 ≤ k ∧ k < n ∧ Hid ((∃ f, n ≤ k + f ∧ RW.lefF f k n = L) ∧ wr = w)) (fun i _ => n - (intOf i).toNat)
  case atStart => exact ⟨1, rfl, Nat.le_refl _, h2, ⟨n, by omega, hLH.out⟩, rfl⟩
  case round =>
    obtain ⟨k, rfl, hk1, hkn, hQ⟩ := hrel
    by_cases hc : 2 * k < n
    · have hci : (k : Int) < (n : Int) - (k : Int) := by omega
      have hst := hide (show ∃ f, n ≤ 2 * k + f ∧ RW.lefF f (2 * k) n = L from by
        obtain ⟨⟨f, h1, h3⟩, _⟩ := hQ.out
        obtain ⟨g, rfl, h4⟩ := RW.lefF_step hc h1
        exact ⟨g, by omega, by rw [← h4]; exact h3⟩)
      have hw2 : wrap64 (2 * (k : Int)) = ((2 * k : Nat) : Int) := by rw [IntWalk.wrap64_in _ ⟨by omega, by omega⟩]; omega
      go_wp2
      go_roundw
      case rel => exact ⟨2 * k, by go_num, by omega, hc, hst.out, hQ.out.2⟩
      case measure => simp [intOf]; omega
    · have hci : ¬ (k : Int) < (n : Int) - (k : Int) := by omega
      have hst := hide (show L = k ∧ wr = w from by
        obtain ⟨⟨f, _, h3⟩, h4⟩ := hQ.out
        rw [RW.lefF_stop hc] at h3
        exact ⟨h3.symm, h4⟩)
      clear hQ
      go_wp2
      go_ret
      exact ⟨by rw [hst.out.1]; rfl, hst.out.2⟩
theorem rleaf_any (s : ByteArray) (hs : s.size ≤ 1000000) (w : World) : Calls Tryz.prog 73 #[.string s] w fun e w' => e = .returned (.string (RW.leafB RW.k0F s)) ∧ Below w.heap.size w w' := by
  have hz : (⟨#[0]⟩ : ByteArray).size + s.size ≤ 9223372036854775807 := by show 1 + s.size ≤ _; omega
  obtain ⟨S, hS⟩ : ∃ S, S = (⟨#[0]⟩ : ByteArray) ++ s := ⟨_, rfl⟩
  have hSs : S.size ≤ 1099511627776 := by rw [hS, app_size]; show 1 + s.size ≤ _; omega
  have hSum := hide (fun W => rsum_any S hSs W)
  have hl : S.data.toList = 0 :: s.data.toList := by rw [hS, app_data]; rfl
  rw [hl, show (⟨(RW.sha RW.k0F (0 :: s.data.toList)).toArray⟩ : ByteArray) = RW.leafB RW.k0F s from rfl, hS] at hSum
  clear hl hSs hS
  go_enter Tryz.func73, Tryz.ntmps73
  go_wp2_with (go_at_call 60; refine (hSum.out _).mono ?_; rintro e w1 ⟨rfl, h⟩; have h1 := hide h; clear h)
  go_ret
  exact ⟨rfl, h1.out⟩
theorem rnode_any (a b : ByteArray) (ha : a.size ≤ 1000000) (hb : b.size ≤ 1000000) (w : World) : Calls Tryz.prog 74 #[.string a, .string b] w fun e w' => e = .returned (.string (RW.nodeB RW.k0F a b)) ∧ Below w.heap.size w w' := by
  have hz : (⟨#[1]⟩ : ByteArray).size + a.size ≤ 9223372036854775807 := by show 1 + a.size ≤ _; omega
  have hz2 : ((⟨#[1]⟩ : ByteArray) ++ a).size + b.size ≤ 9223372036854775807 := by rw [app_size]; show 1 + a.size + b.size ≤ _; omega
  obtain ⟨S, hS⟩ : ∃ S, S = ((⟨#[1]⟩ : ByteArray) ++ a) ++ b := ⟨_, rfl⟩
  have hSs : S.size ≤ 1099511627776 := by rw [hS, app_size, app_size]; show 1 + a.size + b.size ≤ _; omega
  have hSum := hide (fun W => rsum_any S hSs W)
  have hl : S.data.toList = 1 :: (a.data.toList ++ b.data.toList) := by rw [hS, app_data, app_data]; rfl
  rw [hl, show (⟨(RW.sha RW.k0F (1 :: (a.data.toList ++ b.data.toList))).toArray⟩ : ByteArray) = RW.nodeB RW.k0F a b from rfl, hS] at hSum
  clear hl hSs hS
  go_enter Tryz.func74, Tryz.ntmps74
  go_wp2_with (go_at_call 60; refine (hSum.out _).mono ?_; rintro e w1 ⟨rfl, h⟩; have h1 := hide h; clear h)
  go_ret
  exact ⟨rfl, h1.out⟩
theorem cf_rootR : ∀ args w, (callFunc 55 args).run Tryz.prog w = .ok (.enter 55 args) w := fun args w => by go_simp
theorem cf_nodeR : ∀ args w, (callFunc 74 args).run Tryz.prog w = .ok (.enter 74 args) w := fun args w => by go_simp
theorem op_lo_sR {ev : Operand → Value} {o : Oper} {x y : Operand} {w : World} {b f n c m : Nat} (ho : o.op = .slice 27 x (some y) none none) (hx : ev x = .slice (some ⟨b, f, none⟩) n c) (hy : ev y = .int .i64 (m : Int)) (hm : m < n) (hn : n ≤ c) : (execOp ev o).run Tryz.prog w = .ok (.value (.slice (some ⟨b, f + m, none⟩) (n - m) (c - m))) w := by
  have h : (m : Int) ≤ (n : Int) := by omega
  have h2 : (m : Int) ≤ (c : Int) := by omega
  have h3 : (n : Int) ≤ (c : Int) := by omega
  have h4 : m < c := by omega
  have h5 : ¬ c = m := by omega
  unfold execOp
  rw [ho]
  simp only [hx]
  go_simp
theorem str_halves {W : World} {b f n c m : Nat} {l : List ByteArray} (h : StrR W (.slice (some ⟨b, f, none⟩) n c) l) (hn : n = l.length) (hm : m ≤ n) : StrR W (.slice (some ⟨b, f, none⟩) m c) (l.take m) ∧ StrR W (.slice (some ⟨b, f + m, none⟩) (n - m) (c - m)) (l.drop m) := by
  subst hn
  refine ⟨RowV.first h m hm, ?_⟩
  have := RowV.sub h m l.length hm (Nat.le_refl _)
  rw [List.take_length] at this
  simpa using this
set_option maxRecDepth 100000 in
set_option maxHeartbeats 4000000 in
theorem rroot_any : ∀ (N : Nat) (v : Value) (l : List ByteArray), l.length ≤ N → l.length ≤ 1000000 → (∀ s ∈ l, s.size ≤ 1000000) → ∀ (w : World), StrR w v l →
    Calls Tryz.prog 55 #[v] w fun e w' => e = .returned (.string (RW.rootR RW.k0F l)) ∧ Below w.heap.size w w' := by
  intro N
  induction N with
  | zero =>
    intro v l hN hl hs w hv
    obtain rfl : l = [] := List.eq_nil_of_length_eq_zero (by omega)
    obtain ⟨a, c, rfl, _, _⟩ := hv
    rw [RW.rootR_nil]
    have hSum := hide (fun W => (show Calls Tryz.prog 60 #[.string ⟨#[]⟩] W fun e w' => e = .returned (.string ⟨(RW.sha RW.k0F []).toArray⟩) ∧ Below W.heap.size W w' from rsum_any ⟨#[]⟩ (by decide) W))
    clear hs
    go_enter Tryz.func55, Tryz.ntmps55
    go_wp2_with (go_at_call 60; refine (hSum.out _).mono ?_; rintro e w1 ⟨rfl, h⟩; have h1 := hide h; clear h)
    go_ret
    exact ⟨rfl, h1.out⟩
  | succ N ih =>
    intro v l hN hl hs w hv
    rcases Nat.lt_or_ge l.length 2 with h2 | h2
    · rcases l with _ | ⟨s, _ | ⟨t, l⟩⟩
      · exact ih v [] (Nat.zero_le _) hl hs w hv
      · rw [RW.rootR_one]
        obtain ⟨g, oo, c, rfl, hc⟩ := strR_cell (W' := w) (j := 0) (r := s) hv rfl
        have hcc := hc w (Below.refl _ _)
        rw [Nat.add_zero] at hcc
        have hLf := hide (fun W => rleaf_any s (hs s (by simp)) W)
        rw [show ([s] : List ByteArray).length = 1 from rfl]
        clear hs hv hc ih hN hl h2
        go_enter Tryz.func55, Tryz.ntmps55
        go_wp2_with (go_at_call 73; refine (hLf.out _).mono ?_; rintro e w1 ⟨rfl, h⟩; have h1 := hide h; clear h)
        go_ret
        exact ⟨rfl, h1.out⟩
      · simp at h2; omega
    · rw [RW.rootR_two _ h2]
      obtain ⟨g, oo, c, rfl, hcap, hgb, _⟩ := RowV.at hv (by rintro rfl; simp at h2)
      obtain ⟨n, hn⟩ : ∃ n, n = l.length := ⟨_, rfl⟩
      obtain ⟨_, k2, k3, k4⟩ := RW.lef_spec h2
      have hLe := hide (fun W => left_any l.length h2 hl W)
      rw [← hn] at hLe hcap h2 hv k2 k3 k4 hl ⊢
      obtain ⟨k, hk⟩ : ∃ k, k = RW.lef n := ⟨_, rfl⟩
      rw [← hk] at hLe k2 k3 k4 ⊢
      have hH := hide (str_halves hv hn (Nat.le_of_lt k2))
      have hR1 := hide (fun W (h : StrR W (.slice (some ⟨g, oo, none⟩) k c) (l.take k)) => ih _ (l.take k) (by rw [List.length_take]; omega) (by rw [List.length_take]; omega) (fun s hs' => hs s (List.mem_of_mem_take hs')) W h)
      have hR2 := hide (fun W (h : StrR W (.slice (some ⟨g, oo + k, none⟩) (n - k) (c - k)) (l.drop k)) => ih _ (l.drop k) (by rw [List.length_drop]; omega) (by rw [List.length_drop]; omega) (fun s hs' => hs s (List.mem_of_mem_drop hs')) W h)
      obtain ⟨r1, hr1⟩ : ∃ r, r = RW.rootR RW.k0F (l.take k) := ⟨_, rfl⟩
      obtain ⟨r2, hr2⟩ : ∃ r, r = RW.rootR RW.k0F (l.drop k) := ⟨_, rfl⟩
      have hNd := hide (fun W => rnode_any r1 r2 (by rw [hr1, RW.rootR_size]; decide) (by rw [hr2, RW.rootR_size]; decide) W)
      rw [← hr1] at hR1
      rw [← hr2] at hR2
      rw [← hr1, ← hr2]
      obtain ⟨nd, hnd⟩ : ∃ r, r = RW.nodeB RW.k0F r1 r2 := ⟨_, rfl⟩
      rw [← hnd] at hNd ⊢
      have hkc : k ≤ c := by omega
      have hne0 : ((n : Int) == 0) = false := by simp; omega
      have hne1 : ((n : Int) == 1) = false := by simp; omega
      clear ih hs hv hn hk hr1 hr2 hnd hN
      go_enter Tryz.func55, Tryz.ntmps55
      go_upto_region 6 with (go_at_call 69; refine (hLe.out _).mono ?_; rintro e w1 ⟨rfl, h⟩; obtain rfl := h.symm)
      refine wp_region_k (fun _ W => Below w.heap.size w W) (fun _ => True) [3, 7, 8] (.op 0 (.op 1 (.op 2 (.op 4 (.op 5 (.op 6 (.op 3 (.op 7 (.op 8 (.op 9 .nil)))))))))) (by kernel_rfl) (by kernel_rfl) (by rfl) (by kernel_rfl) (Below.refl _ w).drew trivial ?_
      refine k_val (.slice (some ⟨g, oo, none⟩) n c) (by apply opN; repeat' (first | apply OpAt.z | apply OpAt.s)) (by rfl) (by rfl) (fun _ W hS => op_mv rfl rfl) ?_
      simp only [Act.put, List.setIfInBounds_toArray, List.set_cons_zero, List.set_cons_succ]
      refine k_val (.int .i64 (k : Int)) (by apply opN; repeat' (first | apply OpAt.z | apply OpAt.s)) (by rfl) (by rfl) (fun _ W hS => op_mv rfl rfl) ?_
      simp only [Act.put, List.setIfInBounds_toArray, List.set_cons_zero, List.set_cons_succ]
      refine k_val (.slice (some ⟨g, oo, none⟩) k c) (by apply opN; repeat' (first | apply OpAt.z | apply OpAt.s)) (by rfl) (by rfl) (fun _ W hS => op_hi_sD rfl rfl rfl hkc) ?_
      simp only [Act.put, List.setIfInBounds_toArray, List.set_cons_zero, List.set_cons_succ]
      refine k_val (.slice (some ⟨g, oo, none⟩) n c) (by apply opN; repeat' (first | apply OpAt.z | apply OpAt.s)) (by rfl) (by rfl) (fun _ W hS => op_mv rfl rfl) ?_
      simp only [Act.put, List.setIfInBounds_toArray, List.set_cons_zero, List.set_cons_succ]
      refine k_val (.int .i64 (k : Int)) (by apply opN; repeat' (first | apply OpAt.z | apply OpAt.s)) (by rfl) (by rfl) (fun _ W hS => op_mv rfl rfl) ?_
      simp only [Act.put, List.setIfInBounds_toArray, List.set_cons_zero, List.set_cons_succ]
      refine k_val (.slice (some ⟨g, oo + k, none⟩) (n - k) (c - k)) (by apply opN; repeat' (first | apply OpAt.z | apply OpAt.s)) (by rfl) (by rfl) (fun _ W hS => op_lo_sR rfl rfl rfl k2 hcap) ?_
      simp only [Act.put, List.setIfInBounds_toArray, List.set_cons_zero, List.set_cons_succ]
      refine k_step (fun K' u => u = .string r1 ∧ K' = fun _ => True) (by apply opN; repeat' (first | apply OpAt.z | apply OpAt.s)) (by rfl) (by rfl) (by rfl) (fun W hC hK => ?_) ?_
      · refine op_x1 rfl rfl rfl cf_rootR ?_
        refine (hR1.out W (hH.out.1.next hC)).mono ?_
        rintro e w' ⟨rfl, h4⟩
        exact ⟨_, rfl, bel_cat hC (Nat.le_refl _) h4, _, trivial, rfl, rfl⟩
      rintro K' u ⟨rfl, rfl⟩
      simp only [Act.put, List.setIfInBounds_toArray, List.set_cons_zero, List.set_cons_succ]
      refine k_step (fun K' u => u = .string r2 ∧ K' = fun _ => True) (by apply opN; repeat' (first | apply OpAt.z | apply OpAt.s)) (by rfl) (by rfl) (by rfl) (fun W hC hK => ?_) ?_
      · refine op_x1 rfl rfl rfl cf_rootR ?_
        refine (hR2.out W (hH.out.2.next hC)).mono ?_
        rintro e w' ⟨rfl, h4⟩
        exact ⟨_, rfl, bel_cat hC (Nat.le_refl _) h4, _, trivial, rfl, rfl⟩
      rintro K' u ⟨rfl, rfl⟩
      simp only [Act.put, List.setIfInBounds_toArray, List.set_cons_zero, List.set_cons_succ]
      refine k_step (fun K' u => u = .string nd ∧ K' = fun _ => True) (by apply opN; repeat' (first | apply OpAt.z | apply OpAt.s)) (by rfl) (by rfl) (by rfl) (fun W hC hK => ?_) ?_
      · refine op_x2 rfl rfl rfl rfl cf_nodeR ?_
        refine (hNd.out W).mono ?_
        rintro e w' ⟨rfl, h4⟩
        exact ⟨_, rfl, bel_cat hC (Nat.le_refl _) h4, _, trivial, rfl, rfl⟩
      rintro K' u ⟨rfl, rfl⟩
      simp only [Act.put, List.setIfInBounds_toArray, List.set_cons_zero, List.set_cons_succ]
      refine k_val (.string nd) (by apply opN; repeat' (first | apply OpAt.z | apply OpAt.s)) (by rfl) (by rfl) (fun _ W hS => op_asg rfl rfl) ?_
      simp only [Act.put, List.setIfInBounds_toArray, List.set_cons_zero, List.set_cons_succ]
      refine k_nil ?_
      intro W hCW _
      have hB := hide (hCW : Below w.heap.size w W)
      clear hCW
      go_wp2
      go_ret
      exact ⟨rfl, hB.out⟩
end Go.Proofs.YtnlphbfjeekooaaGreatDoor

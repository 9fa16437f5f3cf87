/-
  Packages slices and royaltyref10: Contains, Has, Same, SameLists: what they return; only new memory is written.
-/
import Derived.Test.YtbmlfejlmedmgaaG3
namespace Go.Proofs.Ytbmlfejlmedmgaa
open Go.RowKit RG
/-- the ints of a slice in a world -/
theorem ints_cell {W : World} {b o j : Nat} {l : List Int} {y : Int} (hc : ∀ i x, l[i]? = some x → W.rangeAt b (o + i * 1) (encI x)) (hy : l[j]? = some y) : W.cell? ⟨b, o + j, none⟩ = some (.int .i64 y) := by
  have := hc j y hy 0 _ rfl
  rw [Nat.mul_one, Nat.add_zero] at this
  exact this
/-- a slice of slices of ints -/
def LL (W : World) (v : Value) (l : List (List Int)) : Prop := ∃ vs : List Value, RowV 1 (fun u => [u]) W v vs ∧ vs.length = l.length ∧ ∀ (i : Nat) (u : Value) (x : List Int), vs[i]? = some u → l[i]? = some x → RowV 1 encI W u x
theorem LL.next {W W' : World} {v : Value} {l : List (List Int)} (h : LL W v l) (hB : Below W.heap.size W W') : LL W' v l := by
  obtain ⟨vs, h1, h2, h3⟩ := h
  exact ⟨vs, h1.next hB, h2, fun i u x hu hx => (h3 i u x hu hx).next hB⟩
set_option maxRecDepth 10000 in
theorem has_any (v : Value) (l : List Int) (x : Int) (hl : l.length ≤ 1000000) (w : World) (hv : RowV 1 encI w v l) :
    Calls Try.prog 21 #[v, .int .i64 x] w fun e w' => e = .returned (.bool (l.contains x)) ∧ w = w' := by
  obtain ⟨m, hm⟩ : ∃ m, m = l.length := ⟨_, rfl⟩
  obtain ⟨av, cv, rfl, hcv, hav⟩ := hv
  rw [← hm] at hcv hl ⊢
  have hmH := hide hm
  have havH := hide hav
  clear hm hav hcv
  go_enter Try.func21, Try.ntmps21
  go_wp2
  go_loopw [5] (fun i wr => ∃ j : Nat, i = .int .i64 j ∧ j ≤ m ∧ Hid ((l.take j).contains x = false ∧ wr = w)) (fun i _ => m - (intOf i).toNat)
  case atStart => exact ⟨0, rfl, Nat.zero_le _, by simp, rfl⟩
  case round =>
    obtain ⟨j, rfl, hjm, hQ⟩ := hrel
    obtain ⟨hno, hwr⟩ := hQ.out
    subst hwr
    have hnoH := hide hno
    clear hQ hno
    by_cases hlt : j < m
    · obtain ⟨y, hy⟩ : ∃ y, l[j]? = some y := ⟨_, List.getElem?_eq_getElem (by rw [← hmH.out]; exact hlt)⟩
      obtain ⟨b, o, rfl, _, hc⟩ := havH.out.resolve_left (by rintro rfl; simp at hy)
      have hcell : wr.cell? ⟨b, o + j, none⟩ = some (.int .i64 y) := ints_cell hc hy
      have htk := hide (show l.take (j + 1) = l.take j ++ [y] by rw [List.take_add_one, hy]; rfl)
      have hyH := hide hy
      clear hc hy
      by_cases hyx : y = x
      · have hin := hide (show l.contains x = true from List.contains_iff_mem.2 (by rw [← hyx]; exact List.mem_of_getElem? hyH.out))
        go_wp2
        go_ret
        exact ⟨by rw [hin.out] <;> rfl, rfl⟩
      · have hnx := hide (fun h : y = x => hyx h)
        go_wp2
        go_roundw
        case rel => exact ⟨j + 1, by go_num, by omega, ⟨by rw [htk.out, List.contains_eq_any_beq, List.any_append, ← List.contains_eq_any_beq, hnoH.out]; simp; exact fun h => hnx.out h.symm, trivial⟩⟩
        case measure => simp [intOf]; omega
    · obtain rfl : j = m := by omega
      have h1 := hnoH.out
      rw [List.take_of_length_le (by rw [← hmH.out]; exact Nat.le_refl _)] at h1
      have hno := hide h1
      clear h1
      go_wp2
      go_ret
      exact ⟨by rw [hno.out] <;> rfl, rfl⟩
set_option maxRecDepth 10000 in
theorem index_any (v : Value) (l : List Int) (x : Int) (hl : l.length ≤ 1000000) (w : World) (hv : RowV 1 encI w v l) :
    Calls Try.prog 29 #[v, .int .i64 x] w fun e w' => (∃ i : Int, e = .returned (.int .i64 i) ∧ decide (0 ≤ i) = l.contains x) ∧ w = w' := by
  obtain ⟨m, hm⟩ : ∃ m, m = l.length := ⟨_, rfl⟩
  obtain ⟨av, cv, rfl, hcv, hav⟩ := hv
  rw [← hm] at hcv hl ⊢
  have hmH := hide hm
  have havH := hide hav
  clear hm hav hcv
  go_enter Try.func29, Try.ntmps29
  go_wp2
  go_loopw [8] (fun i wr => ∃ j : Nat, i = .int .i64 j ∧ j ≤ m ∧ Hid ((l.take j).contains x = false ∧ wr = w)) (fun i _ => m - (intOf i).toNat)
  case atStart => exact ⟨0, rfl, Nat.zero_le _, by simp, rfl⟩
  case round =>
    obtain ⟨j, rfl, hjm, hQ⟩ := hrel
    obtain ⟨hno, hwr⟩ := hQ.out
    subst hwr
    have hnoH := hide hno
    clear hQ hno
    by_cases hlt : j < m
    · obtain ⟨y, hy⟩ : ∃ y, l[j]? = some y := ⟨_, List.getElem?_eq_getElem (by rw [← hmH.out]; exact hlt)⟩
      obtain ⟨b, o, rfl, _, hc⟩ := havH.out.resolve_left (by rintro rfl; simp at hy)
      have hcell : wr.cell? ⟨b, o + j, none⟩ = some (.int .i64 y) := ints_cell hc hy
      have htk := hide (show l.take (j + 1) = l.take j ++ [y] by rw [List.take_add_one, hy]; rfl)
      have hyH := hide hy
      clear hc hy
      by_cases hyx : x = y
      · have hin := hide (show l.contains x = true from List.contains_iff_mem.2 (by rw [hyx]; exact List.mem_of_getElem? hyH.out))
        go_wp2
        go_ret
        exact ⟨⟨j, rfl, by rw [hin.out]; exact decide_eq_true (Int.natCast_nonneg j)⟩, rfl⟩
      · have hnx := hide (fun h : y = x => hyx h.symm)
        go_wp2
        go_roundw
        case rel => exact ⟨j + 1, by go_num, by omega, ⟨by rw [htk.out, List.contains_eq_any_beq, List.any_append, ← List.contains_eq_any_beq, hnoH.out]; simp; exact fun h => hnx.out h.symm, trivial⟩⟩
        case measure => simp [intOf]; omega
    · obtain rfl : j = m := by omega
      have h1 := hnoH.out
      rw [List.take_of_length_le (by rw [← hmH.out]; exact Nat.le_refl _)] at h1
      have hno := hide h1
      clear h1
      go_wp2
      go_ret
      exact ⟨⟨-1, rfl, by rw [hno.out]; rfl⟩, rfl⟩
theorem contains_any (v : Value) (l : List Int) (x : Int) (hl : l.length ≤ 1000000) (w : World) (hv : RowV 1 encI w v l) :
    Calls Try.prog 23 #[v, .int .i64 x] w fun e w' => e = .returned (.bool (l.contains x)) ∧ w = w' := by
  have hI := hide (index_any v l x hl w hv)
  obtain ⟨av, cv, rfl, _, _⟩ := hv
  obtain ⟨m, hm⟩ : ∃ m, m = l.length := ⟨_, rfl⟩
  rw [← hm] at hI ⊢
  clear hm hl
  go_enter Try.func23, Try.ntmps23
  go_wp2_with (go_at_call 29; refine hI.out.mono ?_; rintro e w' ⟨⟨i, rfl, hi⟩, rfl⟩; have hiH := hide hi; clear hi)
  go_ret
  exact ⟨by rw [← hiH.out] <;> rfl, rfl⟩
namespace RW
theorem take_eqI {α : Type} (l m : List α) (j : Nat) (x : α) (hl : l[j]? = some x) (hm : m[j]? = some x) (h : l.take j = m.take j) : l.take (j + 1) = m.take (j + 1) := by rw [List.take_add_one, List.take_add_one, h, hl, hm]
theorem ne_of_getI {α : Type} {l m : List α} {j : Nat} {x y : α} (hl : l[j]? = some x) (hm : m[j]? = some y) (h : x ≠ y) : l ≠ m := fun e => h (by rw [e, hm] at hl; exact (Option.some.inj hl).symm)
end RW
set_option maxRecDepth 10000 in
set_option maxHeartbeats 2000000 in
theorem same_any (v u : Value) (l m : List Int) (hl : l.length ≤ 1000000) (w : World) (hv : RowV 1 encI w v l) (hu : RowV 1 encI w u m) :
    Calls Try.prog 13 #[v, u] w fun e w' => e = .returned (.bool (decide (l = m))) ∧ Below w.heap.size w w' := by
  obtain ⟨a, ca, rfl, _, ha⟩ := hv
  obtain ⟨b, cb, rfl, _, hb⟩ := hu
  have haH := hide ha
  have hbH := hide hb
  obtain ⟨q, hq⟩ : ∃ q, q = decide (l = m) := ⟨_, rfl⟩
  rw [← hq]
  have hqH := hide hq
  obtain ⟨n, hn⟩ : ∃ n, n = l.length := ⟨_, rfl⟩
  obtain ⟨k, hk⟩ : ∃ k, k = m.length := ⟨_, rfl⟩
  rw [← hn] at hl ⊢
  rw [← hk]
  have hnH := hide hn
  have hkH := hide hk
  clear ha hb hq hn hk
  by_cases hne : n = k
  · subst hne
    go_enter Try.func13, Try.ntmps13
    go_wp2
    go_loopw [5] (fun i wr => ∃ j : Nat, j ≤ n ∧ i = .int .i64 j ∧ Hid (l.take j = m.take j ∧ Below w.heap.size w wr)) (fun i _ => n - (intOf i).toNat)
    case atStart => exact ⟨0, Nat.zero_le _, rfl, rfl, Below.refl _ _⟩
    case round =>
      obtain ⟨j, hj, rfl, hP⟩ := hrel
      by_cases hlt : j < n
      · obtain ⟨x, hx⟩ : ∃ x, l[j]? = some x := ⟨_, List.getElem?_eq_getElem (by rw [← hnH.out]; exact hlt)⟩
        obtain ⟨y, hy⟩ : ∃ y, m[j]? = some y := ⟨_, List.getElem?_eq_getElem (by rw [← hkH.out]; exact hlt)⟩
        obtain ⟨b1, o1, rfl, hb1, hc1⟩ := haH.out.resolve_left (by rintro rfl; have := hnH.out; simp at this; omega)
        obtain ⟨b2, o2, rfl, hb2, hc2⟩ := hbH.out.resolve_left (by rintro rfl; have := hkH.out; simp at this; omega)
        have hl1 : wr.cell? ⟨b1, o1 + j, none⟩ = some (.int .i64 x) := (World.cell?_of_block (a := ⟨b1, o1 + j, none⟩) (hP.out.2.block _ hb1)).trans (ints_cell hc1 hx)
        have hl2 : wr.cell? ⟨b2, o2 + j, none⟩ = some (.int .i64 y) := (World.cell?_of_block (a := ⟨b2, o2 + j, none⟩) (hP.out.2.block _ hb2)).trans (ints_cell hc2 hy)
        have hxH := hide hx
        have hyH := hide hy
        clear hx hy hb1 hb2 hc1 hc2
        by_cases he : x = y
        · go_wp2
          go_quiet (fail)
          go_wp2
          go_roundw
          case rel => exact ⟨j + 1, by omega, by go_num, RW.take_eqI l m j x hxH.out (he ▸ hyH.out) hP.out.1, ⟨hP.out.2.os, hP.out.2.tape, hP.out.2.output, hP.out.2.size, hP.out.2.block⟩⟩
          case measure => simp [intOf]; omega
        · go_wp2
          go_quiet (fail)
          go_wp2
          go_ret
          exact ⟨by rw [hqH.out, decide_eq_false (RW.ne_of_getI hxH.out hyH.out he)] <;> rfl, ⟨hP.out.2.os, hP.out.2.tape, hP.out.2.output, hP.out.2.size, hP.out.2.block⟩⟩
      · obtain rfl : j = n := by omega
        have hA : l = m := by
          have h1 := hP.out.1
          rwa [List.take_of_length_le (by rw [hnH.out]; exact Nat.le_refl _), List.take_of_length_le (by rw [hkH.out]; exact Nat.le_refl _)] at h1
        have hAH := hide (show q = true by rw [hqH.out]; exact decide_eq_true hA)
        clear hA
        go_wp2
        go_ret
        exact ⟨by rw [hAH.out] <;> rfl, hP.out.2⟩
  · have e1 : ((n : Int) != (k : Int)) = true := by simp; omega
    have e2 : (n != k) = true := by simp; omega
    have hF := hide (show q = false by rw [hqH.out]; exact decide_eq_false fun h => hne (by rw [hnH.out, hkH.out, h]))
    clear hne
    go_enter Try.func13, Try.ntmps13
    go_wp2
    go_ret
    exact ⟨by rw [hF.out] <;> rfl, Below.refl _ _⟩
theorem op_idx_ll {ev : Operand → Value} {o : Oper} {x y : Operand} {w : World} {b ao i n c : Nat} (ho : o.op = .indexAddr 33 x y) (hx : ev x = .slice (some ⟨b, ao, none⟩) n c) (hy : ev y = .int .i64 i) (hi : i < n) : (execOp ev o).run Try.prog w = .ok (.value (.pointer (some ⟨b, ao + i, none⟩))) w := by
  unfold execOp
  rw [ho]
  simp only [hx, hy]
  go_simp
theorem vals_cell {W : World} {b o j : Nat} {l : List Value} {y : Value} (hc : ∀ i x, l[i]? = some x → W.rangeAt b (o + i * 1) [x]) (hy : l[j]? = some y) : W.cell? ⟨b, o + j, none⟩ = some y := by
  have := hc j y hy 0 _ rfl
  rw [Nat.mul_one, Nat.add_zero] at this
  exact this
set_option maxRecDepth 10000 in
set_option maxHeartbeats 2000000 in
theorem samelists_any (v u : Value) (l m : List (List Int)) (hl : l.length ≤ 1000000) (hi : ∀ x ∈ l, x.length ≤ 1000000) (w : World) (hv : LL w v l) (hu : LL w u m) :
    Calls Try.prog 16 #[v, u] w fun e w' => e = .returned (.bool (decide (l = m))) ∧ Below w.heap.size w w' := by
  obtain ⟨vs, ⟨a, ca, rfl, _, ha⟩, hvl, hve⟩ := hv
  obtain ⟨us, ⟨b, cb, rfl, _, hb⟩, hul, hue⟩ := hu
  have haH := hide ha
  have hbH := hide hb
  have hveH := hide hve
  have hueH := hide hue
  have hiH := hide hi
  obtain ⟨q, hq⟩ : ∃ q, q = decide (l = m) := ⟨_, rfl⟩
  rw [← hq]
  have hqH := hide hq
  obtain ⟨n, hn⟩ : ∃ n, n = vs.length := ⟨_, rfl⟩
  obtain ⟨k, hk⟩ : ∃ k, k = us.length := ⟨_, rfl⟩
  rw [← hvl, ← hn] at hl
  rw [← hn, ← hk]
  have hnH := hide hn
  have hkH := hide hk
  have hvlH := hide hvl
  have hulH := hide hul
  clear ha hb hq hn hk hve hue hvl hul hi
  by_cases hne : n = k
  · subst hne
    go_enter Try.func16, Try.ntmps16
    go_wp2
    go_loopw [5] (fun i wr => ∃ j : Nat, j ≤ n ∧ i = .int .i64 j ∧ Hid (l.take j = m.take j ∧ Below w.heap.size w wr)) (fun i _ => n - (intOf i).toNat)
    case atStart => exact ⟨0, Nat.zero_le _, rfl, rfl, Below.refl _ _⟩
    case round =>
      obtain ⟨j, hj, rfl, hP⟩ := hrel
      by_cases hlt : j < n
      · obtain ⟨x, hx⟩ : ∃ x, vs[j]? = some x := ⟨_, List.getElem?_eq_getElem (by rw [← hnH.out]; exact hlt)⟩
        obtain ⟨y, hy⟩ : ∃ y, us[j]? = some y := ⟨_, List.getElem?_eq_getElem (by rw [← hkH.out]; exact hlt)⟩
        obtain ⟨p, hp⟩ : ∃ x, l[j]? = some x := ⟨_, List.getElem?_eq_getElem (by rw [← hvlH.out, ← hnH.out]; exact hlt)⟩
        obtain ⟨r, hr⟩ : ∃ y, m[j]? = some y := ⟨_, List.getElem?_eq_getElem (by rw [← hulH.out, ← hkH.out]; exact hlt)⟩
        have hpv := hveH.out j x p hx hp
        have hrv := hueH.out j y r hy hr
        have hpl := hide (hiH.out p (List.mem_of_getElem? hp))
        have hpvH := hide hpv
        have hrvH := hide hrv
        obtain ⟨a1, c1, rfl, _, _⟩ := hpv
        obtain ⟨a2, c2, rfl, _, _⟩ := hrv
        obtain ⟨np, hnp⟩ : ∃ n, n = p.length := ⟨_, rfl⟩
        obtain ⟨nr, hnr⟩ : ∃ n, n = r.length := ⟨_, rfl⟩
        rw [← hnp] at hpvH hx
        rw [← hnr] at hrvH hy
        obtain ⟨b1, o1, rfl, hb1, hc1⟩ := haH.out.resolve_left (by rintro rfl; have := hnH.out; simp at this; omega)
        obtain ⟨b2, o2, rfl, hb2, hc2⟩ := hbH.out.resolve_left (by rintro rfl; have := hkH.out; simp at this; omega)
        have hl1 := hide (fun (W : World) (hW : Below w.heap.size w W) => (World.cell?_of_block (a := ⟨b1, o1 + j, none⟩) (hW.block _ hb1)).trans (vals_cell hc1 hx))
        have hl2 := hide (fun (W : World) (hW : Below w.heap.size w W) => (World.cell?_of_block (a := ⟨b2, o2 + j, none⟩) (hW.block _ hb2)).trans (vals_cell hc2 hy))
        have hPB := hide hP.out.2
        have hPt := hide hP.out.1
        have hpH := hide hp
        have hrH := hide hr
        have hltH := hide hlt
        clear hx hy hb1 hb2 hc1 hc2 hp hr hnp hnr hP
        go_upto_region 6 with fail
        obtain ⟨qs, hqs⟩ : ∃ q, q = decide (p = r) := ⟨_, rfl⟩
        have hqsH := hide hqs
        clear hqs
        refine wp_region_k (fun _ W => Below w.heap.size w W) (fun _ => True) [8] (.op 0 (.op 1 (.op 2 (.op 3 (.op 4 (.op 5 (.op 6 (.op 7 (.op 8 (.op 9 .nil)))))))))) (by kernel_rfl) (by kernel_rfl) (by rfl) (by kernel_rfl) hPB.out.drew trivial ?_
        refine k_val (.slice (some ⟨b1, o1, none⟩) n ca) (by apply opN; repeat' (first | apply OpAt.z | apply OpAt.s)) (by rfl) (by rfl) (fun _ W hS => op_mv rfl rfl) ?_
        simp only [Act.put, List.setIfInBounds_toArray, List.set_cons_zero, List.set_cons_succ]
        refine k_val (.int .i64 (j : Int)) (by apply opN; repeat' (first | apply OpAt.z | apply OpAt.s)) (by rfl) (by rfl) (fun _ W hS => op_mv rfl rfl) ?_
        simp only [Act.put, List.setIfInBounds_toArray, List.set_cons_zero, List.set_cons_succ]
        refine k_val (.pointer (some ⟨b1, o1 + j, none⟩)) (by apply opN; repeat' (first | apply OpAt.z | apply OpAt.s)) (by rfl) (by rfl) (fun _ W hS => op_idx_ll rfl rfl rfl hltH.out) ?_
        simp only [Act.put, List.setIfInBounds_toArray, List.set_cons_zero, List.set_cons_succ]
        refine k_val (.slice a1 np c1) (by apply opN; repeat' (first | apply OpAt.z | apply OpAt.s)) (by rfl) (by rfl) (fun _ W hS => op_load_sl rfl rfl (hl1.out W hS)) ?_
        simp only [Act.put, List.setIfInBounds_toArray, List.set_cons_zero, List.set_cons_succ]
        refine k_val (.slice (some ⟨b2, o2, none⟩) n cb) (by apply opN; repeat' (first | apply OpAt.z | apply OpAt.s)) (by rfl) (by rfl) (fun _ W hS => op_mv rfl rfl) ?_
        simp only [Act.put, List.setIfInBounds_toArray, List.set_cons_zero, List.set_cons_succ]
        refine k_val (.int .i64 (j : Int)) (by apply opN; repeat' (first | apply OpAt.z | apply OpAt.s)) (by rfl) (by rfl) (fun _ W hS => op_mv rfl rfl) ?_
        simp only [Act.put, List.setIfInBounds_toArray, List.set_cons_zero, List.set_cons_succ]
        refine k_val (.pointer (some ⟨b2, o2 + j, none⟩)) (by apply opN; repeat' (first | apply OpAt.z | apply OpAt.s)) (by rfl) (by rfl) (fun _ W hS => op_idx_ll rfl rfl rfl hltH.out) ?_
        simp only [Act.put, List.setIfInBounds_toArray, List.set_cons_zero, List.set_cons_succ]
        refine k_val (.slice a2 nr c2) (by apply opN; repeat' (first | apply OpAt.z | apply OpAt.s)) (by rfl) (by rfl) (fun _ W hS => op_load_sl rfl rfl (hl2.out W hS)) ?_
        simp only [Act.put, List.setIfInBounds_toArray, List.set_cons_zero, List.set_cons_succ]
        refine k_step (fun K' u => u = .bool qs ∧ K' = fun _ => True) (by apply opN; repeat' (first | apply OpAt.z | apply OpAt.s)) (by rfl) (by rfl) (by rfl) (fun W hC hK => ?_) ?_
        · refine op_x2 rfl rfl rfl rfl (fun _ _ => rfl) ((same_any _ _ p r hpl.out W (hpvH.out.next hC) (hrvH.out.next hC)).mono ?_)
          rintro e W' ⟨rfl, h5⟩
          exact ⟨_, rfl, hC.trans (h5.mono hC.size), _, trivial, by rw [hqsH.out], rfl⟩
        rintro _ _ ⟨rfl, rfl⟩
        simp only [Act.put, List.setIfInBounds_toArray, List.set_cons_zero, List.set_cons_succ]
        refine k_val (.bool qs) (by apply opN; repeat' (first | apply OpAt.z | apply OpAt.s)) (by rfl) (by rfl) (fun _ W hS => op_asg rfl rfl) ?_
        simp only [Act.put, List.setIfInBounds_toArray, List.set_cons_zero, List.set_cons_succ]
        refine k_nil ?_
        intro W hC _
        have hCH := hide hC
        clear hC
        cases qs
        · have hpr := hide (show p ≠ r from of_decide_eq_false hqsH.out.symm)
          go_wp2
          go_ret
          exact ⟨by rw [hqH.out, decide_eq_false (RW.ne_of_getI hpH.out hrH.out hpr.out)] <;> rfl, hCH.out⟩
        · have hpr := hide (show p = r from of_decide_eq_true hqsH.out.symm)
          go_wp2
          go_roundw
          case rel => exact ⟨j + 1, by omega, by go_num, RW.take_eqI l m j p hpH.out (hpr.out ▸ hrH.out) hPt.out, hCH.out⟩
          case measure => simp [intOf]; omega
      · obtain rfl : j = n := by omega
        have hA : l = m := by
          have h1 := hP.out.1
          rwa [List.take_of_length_le (by rw [← hvlH.out, hnH.out]; exact Nat.le_refl _), List.take_of_length_le (by rw [← hulH.out, hkH.out]; exact Nat.le_refl _)] at h1
        have hAH := hide (show q = true by rw [hqH.out]; exact decide_eq_true hA)
        clear hA
        go_wp2
        go_ret
        exact ⟨by rw [hAH.out] <;> rfl, hP.out.2⟩
  · have e1 : ((n : Int) != (k : Int)) = true := by simp; omega
    have e2 : (n != k) = true := by simp; omega
    have hF := hide (show q = false by rw [hqH.out]; exact decide_eq_false fun h => hne (by rw [hnH.out, hkH.out, hvlH.out, hulH.out, h]))
    clear hne
    go_enter Try.func16, Try.ntmps16
    go_wp2
    go_ret
    exact ⟨by rw [hF.out] <;> rfl, Below.refl _ _⟩
end Go.Proofs.Ytbmlfejlmedmgaa

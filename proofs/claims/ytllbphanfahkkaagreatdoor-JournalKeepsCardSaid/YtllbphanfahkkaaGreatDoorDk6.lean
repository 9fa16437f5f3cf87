/-
  Package disk: New, Read: what they return, what they change.
-/
import Derived.Test.YtllbphanfahkkaaGreatDoorDk5
namespace Go.Proofs.YtllbphanfahkkaaGreatDoor
open Go.RowKit RG
theorem made_byl (n : Nat) : madeCells #[.int .u8 0] n = (RW.byl (List.replicate n 0)).toArray := by
  apply Array.ext
  · simp [madeCells, RW.byl]
  · intro i h1 h2
    have hi : i < n := by simpa [madeCells] using h1
    simp [madeCells, RW.byl, Nat.mod_one]
theorem run_make_by (n : Nat) (hn : n ≤ 4194304) (w : World) : (Instr.makeSlice 39 (.int .i64 (n : Int)) (.int .i64 (n : Int))).run Tryz.prog w = .ok (.slice (some ⟨w.heap.size, 0, none⟩) n n) (w.alloc (.cells (RW.byl (List.replicate n 0)).toArray 5)) := by
  have hinfo : (Tryz.prog.info? 5).map (fun i => (i.zero, i.size, i.bytes)) = some (some (.int .u8 0), 1, 1) := by kernel_rfl
  obtain ⟨i, hi, hz, hs, hb⟩ := info_parts hinfo
  have h := run_make (P := Tryz.prog) w 39 5 i (.int .u8 0) Tryz.underlying39 hi hz .i64 .i64 (n : Int) (n : Int) (by omega) (Int.le_refl _) (by rw [hb]; omega) (by omega)
  rw [hs, Nat.mul_one, Int.toNat_natCast] at h
  rw [h]
  show Result.ok _ (w.alloc (.cells (madeCells #[.int .u8 0] n) 5)) = _
  rw [made_byl]
theorem op_make {ev : Operand → Value} {o : Oper} {x y : Operand} {w : World} {n : Nat} (hn : n ≤ 4194304) (ho : o.op = .makeSlice 39 x y) (hx : ev x = .int .i64 (n : Int)) (hy : ev y = .int .i64 (n : Int)) :
    (execOp ev o).run Tryz.prog w = .ok (.value (.slice (some ⟨w.heap.size, 0, none⟩) n n)) (w.alloc (.cells (RW.byl (List.replicate n 0)).toArray 5)) := by
  have h := run_make_by n hn w
  unfold execOp
  rw [ho]
  simp only [hx, hy]
  simp [h]
theorem op_build_d {ev : Operand → Value} {o : Oper} {x y : Operand} {w : World} {p q : Option Addr} {n c n' c' : Nat} (ho : o.op = .build 108 #[(1, x), (2, y)]) (hx : ev x = .slice p n c) (hy : ev y = .slice q n' c') :
    (execOp ev o).run Tryz.prog w = .ok (.value (.agg (RW.dkl false 0 (.slice p n c) (.slice q n' c') (.slice none 0 0)))) w := by
  unfold execOp
  rw [ho]
  go_simp
  rfl
theorem op_box_d {ev : Operand → Value} {o : Oper} {x : Operand} {w : World} {cs : Array Value} (ho : o.op = .box 108 x) (hx : ev x = .agg cs) :
    (execOp ev o).run Tryz.prog w = .ok (.value (.pointer (some ⟨w.heap.size, 0, none⟩))) (w.alloc (.cells cs 108)) := by
  unfold execOp
  rw [ho]
  go_simp
/-- a new disk -/
def RW.dk0 (n : Nat) : RW.Dk := ⟨false, 0, List.replicate n 0, List.replicate n 0, []⟩
theorem diskAt_new {W : World} {B db vb n : Nat} (hn : n ≤ 4194304) (hd : W.heap[db]? = some (.cells (RW.byl (List.replicate n 0)).toArray 5 (0, 0))) (hv : W.heap[vb]? = some (.cells (RW.byl (List.replicate n 0)).toArray 5 (0, 0))) (h1 : B ≤ db) (h2 : B ≤ vb) (hne : db ≠ vb) :
    DiskAt (W.alloc (.cells (RW.dkl false 0 (.slice (some ⟨db, 0, none⟩) n n) (.slice (some ⟨vb, 0, none⟩) n n) (.slice none 0 0)) 108)) B W.heap.size n db vb (.slice none 0 0) (RW.dk0 n) :=
  ⟨newAt rfl, (Below.heap_alloc _ _ _ (Array.getElem?_eq_some_iff.1 hd).1).trans hd, (Below.heap_alloc _ _ _ (Array.getElem?_eq_some_iff.1 hv).1).trans hv, World.ownsRow_nil _ _ _ _, Nat.le_trans h1 (Nat.le_of_lt (Array.getElem?_eq_some_iff.1 hd).1), h1, h2, hne, List.length_replicate, List.length_replicate, hn, (show ((0 : Nat) : Int) ≤ 9223372036854775807 by decide)⟩
theorem new_no (n : Int) (h : ¬ (1 ≤ n ∧ n ≤ 4194304)) (w : World) : Calls Tryz.prog 25 #[.int .i64 n] w fun e w' => e = .returned (.tuple #[.pointer none, .int .i64 2]) ∧ w = w' := by
  by_cases h1 : n < 1
  · clear h
    go_enter Tryz.func25, Tryz.ntmps25
    go_wp2
    exact bodyPost_ret (results_tmp2 rfl _ _ _) rfl ⟨rfl, rfl⟩
  · have h2 : 4194304 < n := by omega
    clear h
    go_enter Tryz.func25, Tryz.ntmps25
    go_wp2
    exact bodyPost_ret (results_tmp2 rfl _ _ _) rfl ⟨rfl, rfl⟩
set_option maxRecDepth 10000 in
set_option maxHeartbeats 1000000 in
theorem new_any (n : Nat) (h1 : 1 ≤ n) (hn : n ≤ 4194304) (w : World) : Calls Tryz.prog 25 #[.int .i64 (n : Int)] w fun e w' => ∃ b, e = .returned (.tuple #[.pointer (some ⟨b, 0, none⟩), .int .i64 0]) ∧ (∃ db vb, DiskAt w' w.heap.size b n db vb (.slice none 0 0) (RW.dk0 n)) ∧ Below w.heap.size w w' := by
  have h1i : ¬ (n : Int) < 1 := by omega
  have h2i : ¬ 4194304 < (n : Int) := by omega
  have h1H := hide h1
  have hnH := hide hn
  clear h1 hn
  go_enter Tryz.func25, Tryz.ntmps25
  go_upto_region 3 with fail
  refine wp_region_k (fun _ W => Below w.heap.size w W) (fun _ => True) [1, 3, 5] (.op 0 (.op 2 (.fork 1 (.op 3 (.op 4 (.op 5 (.op 6 (.op 7 .nil))))) 3 (.op 1 (.op 4 (.op 5 (.op 6 (.op 7 .nil)))))))) (by kernel_rfl) (by kernel_rfl) (by rfl) (by kernel_rfl) ((Below.refl _ _).drew) trivial ?_
  refine k_val (.int .i64 (n : Int)) (by apply opN; repeat' (first | apply OpAt.z | apply OpAt.s)) (by rfl) (by rfl) (fun _ W hS => op_mv rfl rfl) ?_
  simp only [Act.put, List.setIfInBounds_toArray, List.set_cons_zero, List.set_cons_succ]
  refine k_val (.int .i64 (n : Int)) (by apply opN; repeat' (first | apply OpAt.z | apply OpAt.s)) (by rfl) (by rfl) (fun _ W hS => op_mv rfl rfl) ?_
  simp only [Act.put, List.setIfInBounds_toArray, List.set_cons_zero, List.set_cons_succ]
  refine h_fork ?_ ?_
  · refine k_one (fun K' u => ∃ g, u = .slice (some ⟨g, 0, none⟩) n n ∧ K' = fun W => w.heap.size ≤ g ∧ W.heap[g]? = some (.cells (RW.byl (List.replicate n 0)).toArray 5 (0, 0))) (by apply opN; repeat' (first | apply OpAt.z | apply OpAt.s)) (by rfl) (by rfl) (by rfl) (fun W hC hK => ?_) ?_
    · rw [op_make hnH.out rfl rfl rfl]
      exact ⟨Below.alloc hC (Below.size hC) _, _, ⟨Below.size hC, newAt rfl⟩, W.heap.size, rfl, rfl⟩
    rintro _ _ ⟨g1, rfl, rfl⟩
    simp only [Act.put, List.setIfInBounds_toArray, List.set_cons_zero, List.set_cons_succ]
    refine k_step (fun K' u => ∃ g, u = .slice (some ⟨g, 0, none⟩) n n ∧ K' = fun W => (w.heap.size ≤ g1 ∧ W.heap[g1]? = some (.cells (RW.byl (List.replicate n 0)).toArray 5 (0, 0))) ∧ (w.heap.size ≤ g ∧ W.heap[g]? = some (.cells (RW.byl (List.replicate n 0)).toArray 5 (0, 0))) ∧ g1 ≠ g) (by apply opN; repeat' (first | apply OpAt.z | apply OpAt.s)) (by rfl) (by rfl) (by rfl) (fun W hC hK => ?_) ?_
    · rw [op_make hnH.out rfl rfl rfl]
      have hlt := (Array.getElem?_eq_some_iff.1 hK.2).1
      exact ⟨Below.alloc hC (Below.size hC) _, _, ⟨⟨hK.1, (Below.heap_alloc _ _ _ hlt).trans hK.2⟩, ⟨Below.size hC, newAt rfl⟩, Nat.ne_of_lt hlt⟩, W.heap.size, rfl, rfl⟩
    rintro _ _ ⟨g2, rfl, rfl⟩
    simp only [Act.put, List.setIfInBounds_toArray, List.set_cons_zero, List.set_cons_succ]
    refine k_val (.agg (RW.dkl false 0 (.slice (some ⟨g1, 0, none⟩) n n) (.slice (some ⟨g2, 0, none⟩) n n) (.slice none 0 0))) (by apply opN; repeat' (first | apply OpAt.z | apply OpAt.s)) (by rfl) (by rfl) (fun _ W hS => op_build_d rfl rfl rfl) ?_
    simp only [Act.put, List.setIfInBounds_toArray, List.set_cons_zero, List.set_cons_succ]
    refine k_step (fun K' u => ∃ b, u = .pointer (some ⟨b, 0, none⟩) ∧ K' = fun W => DiskAt W w.heap.size b n g1 g2 (.slice none 0 0) (RW.dk0 n)) (by apply opN; repeat' (first | apply OpAt.z | apply OpAt.s)) (by rfl) (by rfl) (by rfl) (fun W hC hK => ?_) ?_
    · rw [op_box_d rfl rfl]
      exact ⟨Below.alloc hC (Below.size hC) _, _, diskAt_new hnH.out hK.1.2 hK.2.1.2 hK.1.1 hK.2.1.1 hK.2.2, W.heap.size, rfl, rfl⟩
    rintro _ _ ⟨b, rfl, rfl⟩
    simp only [Act.put, List.setIfInBounds_toArray, List.set_cons_zero, List.set_cons_succ]
    refine k_val (.pointer (some ⟨b, 0, none⟩)) (by apply opN; repeat' (first | apply OpAt.z | apply OpAt.s)) (by rfl) (by rfl) (fun _ W hS => op_asg rfl rfl) ?_
    simp only [Act.put, List.setIfInBounds_toArray, List.set_cons_zero, List.set_cons_succ]
    refine k_val (.int .i64 0) (by apply opN; repeat' (first | apply OpAt.z | apply OpAt.s)) (by rfl) (by rfl) (fun _ W hS => op_asg rfl rfl) ?_
    simp only [Act.put, List.setIfInBounds_toArray, List.set_cons_zero, List.set_cons_succ]
    refine k_nil ?_
    intro W hC hK
    have hKH := hide hK
    have hCH := hide hC
    clear hC hK
    go_wp2
    exact bodyPost_ret (results_tmp2 rfl _ _ _) rfl ⟨b, rfl, ⟨g1, g2, hKH.out⟩, hCH.out⟩
  · refine k_one (fun K' u => ∃ g, u = .slice (some ⟨g, 0, none⟩) n n ∧ K' = fun W => w.heap.size ≤ g ∧ W.heap[g]? = some (.cells (RW.byl (List.replicate n 0)).toArray 5 (0, 0))) (by apply opN; repeat' (first | apply OpAt.z | apply OpAt.s)) (by rfl) (by rfl) (by rfl) (fun W hC hK => ?_) ?_
    · rw [op_make hnH.out rfl rfl rfl]
      exact ⟨Below.alloc hC (Below.size hC) _, _, ⟨Below.size hC, newAt rfl⟩, W.heap.size, rfl, rfl⟩
    rintro _ _ ⟨g1, rfl, rfl⟩
    simp only [Act.put, List.setIfInBounds_toArray, List.set_cons_zero, List.set_cons_succ]
    refine k_step (fun K' u => ∃ g, u = .slice (some ⟨g, 0, none⟩) n n ∧ K' = fun W => (w.heap.size ≤ g1 ∧ W.heap[g1]? = some (.cells (RW.byl (List.replicate n 0)).toArray 5 (0, 0))) ∧ (w.heap.size ≤ g ∧ W.heap[g]? = some (.cells (RW.byl (List.replicate n 0)).toArray 5 (0, 0))) ∧ g1 ≠ g) (by apply opN; repeat' (first | apply OpAt.z | apply OpAt.s)) (by rfl) (by rfl) (by rfl) (fun W hC hK => ?_) ?_
    · rw [op_make hnH.out rfl rfl rfl]
      have hlt := (Array.getElem?_eq_some_iff.1 hK.2).1
      exact ⟨Below.alloc hC (Below.size hC) _, _, ⟨⟨hK.1, (Below.heap_alloc _ _ _ hlt).trans hK.2⟩, ⟨Below.size hC, newAt rfl⟩, Nat.ne_of_lt hlt⟩, W.heap.size, rfl, rfl⟩
    rintro _ _ ⟨g2, rfl, rfl⟩
    simp only [Act.put, List.setIfInBounds_toArray, List.set_cons_zero, List.set_cons_succ]
    refine k_val (.agg (RW.dkl false 0 (.slice (some ⟨g2, 0, none⟩) n n) (.slice (some ⟨g1, 0, none⟩) n n) (.slice none 0 0))) (by apply opN; repeat' (first | apply OpAt.z | apply OpAt.s)) (by rfl) (by rfl) (fun _ W hS => op_build_d rfl rfl rfl) ?_
    simp only [Act.put, List.setIfInBounds_toArray, List.set_cons_zero, List.set_cons_succ]
    refine k_step (fun K' u => ∃ b, u = .pointer (some ⟨b, 0, none⟩) ∧ K' = fun W => DiskAt W w.heap.size b n g2 g1 (.slice none 0 0) (RW.dk0 n)) (by apply opN; repeat' (first | apply OpAt.z | apply OpAt.s)) (by rfl) (by rfl) (by rfl) (fun W hC hK => ?_) ?_
    · rw [op_box_d rfl rfl]
      exact ⟨Below.alloc hC (Below.size hC) _, _, diskAt_new hnH.out hK.2.1.2 hK.1.2 hK.2.1.1 hK.1.1 (Ne.symm hK.2.2), W.heap.size, rfl, rfl⟩
    rintro _ _ ⟨b, rfl, rfl⟩
    simp only [Act.put, List.setIfInBounds_toArray, List.set_cons_zero, List.set_cons_succ]
    refine k_val (.pointer (some ⟨b, 0, none⟩)) (by apply opN; repeat' (first | apply OpAt.z | apply OpAt.s)) (by rfl) (by rfl) (fun _ W hS => op_asg rfl rfl) ?_
    simp only [Act.put, List.setIfInBounds_toArray, List.set_cons_zero, List.set_cons_succ]
    refine k_val (.int .i64 0) (by apply opN; repeat' (first | apply OpAt.z | apply OpAt.s)) (by rfl) (by rfl) (fun _ W hS => op_asg rfl rfl) ?_
    simp only [Act.put, List.setIfInBounds_toArray, List.set_cons_zero, List.set_cons_succ]
    refine k_nil ?_
    intro W hC hK
    have hKH := hide hK
    have hCH := hide hC
    clear hC hK
    go_wp2
    exact bodyPost_ret (results_tmp2 rfl _ _ _) rfl ⟨b, rfl, ⟨g2, g1, hKH.out⟩, hCH.out⟩
theorem str_nums (l : List UInt8) : strOfNums (l.map fun u => (u.toNat : Int)) = RW.strOf l := by
  simp [strOfNums, RW.strOf, Function.comp_def]
theorem run_conv (w : World) (vb : Nat) (l : List UInt8) (hv : w.heap[vb]? = some (.cells (RW.byl l).toArray 5 (0, 0))) (i k c : Nat) (h : i + k ≤ l.length) :
    (convert 39 9 (.slice (some ⟨vb, i, none⟩) k c)).run Tryz.prog w = .ok (.string (RW.strOf ((l.drop i).take k))) w := by
  have hlen : (((l.drop i).take k).map fun u => (u.toNat : Int)).length = k := by simp; omega
  have := run_convert_bytes_arg (P := Tryz.prog) w 39 5 Tryz.underlying39 Tryz.underlying5 vb i k c (((l.drop i).take k).map fun u => (u.toNat : Int)) hlen (fun j hj => by
    rw [cellAt hv]
    have h1 : i + j < l.length := by omega
    have h2 : (((l.drop i).take k).map fun u => (u.toNat : Int)).getD j 0 = ((l[i + j].toNat : Nat) : Int) := by
      rw [List.getD_eq_getElem?_getD, List.getElem?_map, List.getElem?_take, if_pos hj, List.getElem?_drop, List.getElem?_eq_getElem h1]
      rfl
    rw [h2, List.getElem?_toArray, RW.byl, List.getElem?_map, List.getElem?_eq_getElem h1]
    rfl) 9 Tryz.underlying9
  rw [str_nums] at this
  exact this
set_option maxRecDepth 10000 in
set_option maxHeartbeats 1000000 in
theorem read_any (B b n db vb : Nat) (pv : Value) (S : RW.Dk) (o k : Int) (w : World) (h : DiskAt w B b n db vb pv S) :
    Calls Tryz.prog 57 #[.pointer (some ⟨b, 0, none⟩), .int .i64 o, .int .i64 k] w fun e w' => e = .returned (.tuple #[.string (S.read n o k).1, .int .i64 (S.read n o k).2]) ∧ w = w' := by
  have hC := hide (check_any b S.off S.left _ _ pv w h.row)
  have hI := hide (inside_any b S.off S.left (some ⟨db, 0, none⟩) n n _ pv o k w h.row h.hn)
  have c3 : w.cell? ⟨b, 3, none⟩ = some (.slice (some ⟨vb, 0, none⟩) n n) := cellAt h.row 3
  have hH := hide h
  obtain ⟨r, hr⟩ : ∃ r, r = S.read n o k := ⟨_, rfl⟩
  rw [← hr]
  rw [RW.Dk.read] at hr
  cases hoff : S.off
  · rw [hoff, if_neg Bool.false_ne_true] at hr
    rw [hoff] at hC
    cases hin : RW.insB n o k
    · rw [hin] at hI
      rw [hin, if_neg Bool.false_ne_true] at hr
      have hrH := hide hr
      clear hr h hoff hin
      go_enter Tryz.func57, Tryz.ntmps57
      go_wp2_with (first
        | (go_at_call 51; refine hC.out.mono ?_; rintro e w' ⟨rfl, rfl⟩)
        | (go_at_call 52; refine hI.out.mono ?_; rintro e w' ⟨rfl, rfl⟩))
      exact bodyPost_ret (results_tmp2 rfl _ _ _) rfl ⟨by rw [hrH.out] <;> rfl, rfl⟩
    · obtain ⟨i1, i2, i3, i4⟩ := (RW.insB_iff n o k).1 hin
      rw [hin] at hI
      rw [hin, if_pos rfl] at hr
      obtain ⟨i, rfl⟩ : ∃ i : Nat, o = i := ⟨o.toNat, by omega⟩
      obtain ⟨j, rfl⟩ : ∃ j : Nat, k = j := ⟨k.toNat, by omega⟩
      rw [Int.toNat_natCast, Int.toNat_natCast] at hr
      have hi : i ≤ n := by omega
      have hij : j ≤ n - i := by omega
      obtain ⟨X, hX⟩ : ∃ X, X = RW.strOf ((S.vis.drop i).take j) := ⟨_, rfl⟩
      rw [← hX] at hr
      have hrH := hide hr
      have hji : ¬ n - i < j := by omega
      by_cases hni : n = i
      · have hj0 : j = 0 := by omega
        subst hni hj0
        have hcv := run_conv w vb S.vis h.vis 0 0 0 (by omega)
        rw [show RW.strOf ((S.vis.drop 0).take 0) = X by rw [hX]; simp] at hcv
        clear hr h hoff hin hX
        go_enter Tryz.func57, Tryz.ntmps57
        go_wp2_with (first
          | (go_at_call 51; refine hC.out.mono ?_; rintro e w' ⟨rfl, rfl⟩)
          | (go_at_call 52; refine hI.out.mono ?_; rintro e w' ⟨rfl, rfl⟩))
        exact bodyPost_ret (results_tmp2 rfl _ _ _) rfl ⟨by rw [hrH.out] <;> rfl, rfl⟩
      · have hcv := run_conv w vb S.vis h.vis i j (n - i) (by rw [h.lv]; omega)
        rw [← hX] at hcv
        clear hr h hoff hin hX
        go_enter Tryz.func57, Tryz.ntmps57
        go_wp2_with (first
          | (go_at_call 51; refine hC.out.mono ?_; rintro e w' ⟨rfl, rfl⟩)
          | (go_at_call 52; refine hI.out.mono ?_; rintro e w' ⟨rfl, rfl⟩))
        exact bodyPost_ret (results_tmp2 rfl _ _ _) rfl ⟨by rw [hrH.out] <;> rfl, rfl⟩
  · rw [hoff, if_pos rfl] at hr
    rw [hoff] at hC
    have hrH := hide hr
    clear hr h hoff
    go_enter Tryz.func57, Tryz.ntmps57
    go_wp2_with (go_at_call 51; refine hC.out.mono ?_; rintro e w' ⟨rfl, rfl⟩)
    exact bodyPost_ret (results_tmp2 rfl _ _ _) rfl ⟨by rw [hrH.out] <;> rfl, rfl⟩
end Go.Proofs.YtllbphanfahkkaaGreatDoor

/-
  Package journal: Open: what it returns, what it leaves of the disk.
-/
import Derived.Test.YtllbphanfahkkaaGreatDoorJn6
namespace Go.Proofs.YtllbphanfahkkaaGreatDoor
open Go.RowKit RG
namespace RW
theorem drop_all {l : List UInt8} (h : l.all (fun b => decide (b = 0)) = true) : ∀ (j : Nat) b, l[j]? = some b → b = 0 := fun j b hb => by
  simpa using List.all_eq_true.1 h b (List.mem_of_getElem? hb)
theorem trim_zeros {l : List UInt8} (h : l.all (fun b => decide (b = 0)) = true) : Lib.trimB l 0 = [] := by
  unfold Lib.trimB
  rw [Lib.trimRightB_take l 0 0 (Nat.zero_le _) (fun j b _ hb => drop_all h j b hb) (fun b h0 _ => absurd h0 (Nat.lt_irrefl 0)), List.take_zero]
  rfl
theorem last_nz : ∀ (l : List UInt8), l.all (fun b => decide (b = 0)) = false → ∃ k b, k < l.length ∧ l[k]? = some b ∧ b ≠ 0 ∧ ∀ j c, k < j → l[j]? = some c → c = 0 := by
  intro l
  induction l with
  | nil => intro h; simp at h
  | cons x t ih =>
    intro h
    by_cases ht : t.all (fun b => decide (b = 0)) = true
    · refine ⟨0, x, by simp, rfl, ?_, ?_⟩
      · rintro rfl
        rw [List.all_cons, ht] at h
        simp at h
      · intro j c hj hc
        rcases j with _ | j
        · omega
        · exact drop_all ht j c hc
    · obtain ⟨k, b, h1, h2, h3, h4⟩ := ih (by simpa using ht)
      refine ⟨k + 1, b, by simpa using h1, h2, h3, ?_⟩
      intro j c hj hc
      rcases j with _ | j
      · omega
      · exact h4 j c (by omega) hc
theorem first_nz : ∀ (l : List UInt8) (k : Nat) (b : UInt8), l[k]? = some b → b ≠ 0 → Lib.trimLeftB l 0 ≠ [] := by
  intro l
  induction l with
  | nil => intro k b h; simp at h
  | cons x t ih =>
    intro k b h hb
    by_cases hx : x = 0
    · rcases k with _ | k
      · simp at h
        exact absurd (h ▸ hx) hb
      · have e : Lib.trimLeftB (x :: t) 0 = Lib.trimLeftB t 0 := by
          unfold Lib.trimLeftB
          rw [List.dropWhile_cons_of_pos (by simp [hx])]
        rw [e]
        exact ih k b h hb
    · have e : Lib.trimLeftB (x :: t) 0 = x :: t := by
        unfold Lib.trimLeftB
        rw [List.dropWhile_cons_of_neg (by simp [hx])]
      rw [e]
      simp
theorem trim_some {l : List UInt8} (h : l.all (fun b => decide (b = 0)) = false) : Lib.trimB l 0 ≠ [] := by
  obtain ⟨k, b, h1, h2, h3, h4⟩ := last_nz l h
  unfold Lib.trimB
  rw [Lib.trimRightB_take l 0 (k + 1) (by omega) (fun j c hj hc => h4 j c (by omega) hc) (fun c _ hc => by
    rw [Nat.add_sub_cancel, h2] at hc
    cases hc
    exact h3)]
  exact first_nz _ k b (by rw [List.getElem?_take, if_pos (by omega)]; exact h2) h3
theorem emp_yes0 (s : ByteArray) (h : s = ⟨#[]⟩) : s.toList.isEmpty = true := by rw [h, ByteArray.toList_eq]; rfl
theorem emp_no0 (s : ByteArray) (h : s.data.toList ≠ []) : s.toList.isEmpty = false := by
  rw [ByteArray.toList_eq]
  cases hl : s.data.toList with
  | nil => exact absurd hl h
  | cons a l => rfl
end RW
theorem jopen_wr {H : List UInt8 → List UInt8} {n k left : Nat} {dur vis : List UInt8} {pend : List (Nat × ByteArray)} {rs : List ByteArray} (hL : RW.ldL H RW.z32 vis = some (rs, k)) (hz : (vis.drop k).all (fun b => decide (b = 0)) = false) :
    RW.jopen H n ⟨false, left, dur, vis, pend⟩ = if (RW.wrsy n ⟨false, left, dur, vis, pend⟩ k (List.replicate (n - k) 0)).1 ≠ 0 then ((RW.wrsy n ⟨false, left, dur, vis, pend⟩ k (List.replicate (n - k) 0)).1, none, (RW.wrsy n ⟨false, left, dur, vis, pend⟩ k (List.replicate (n - k) 0)).2) else (0, some rs, (RW.wrsy n ⟨false, left, dur, vis, pend⟩ k (List.replicate (n - k) 0)).2) := by
  unfold RW.jopen
  simp only [Bool.false_eq_true, if_false, hL, hz]
  by_cases h1 : (RW.Dk.write ⟨false, left, dur, vis, pend⟩ n (k : Int) (RW.strOf (List.replicate (n - k) 0))).1 = 0
  · rw [if_neg (by rw [h1]; simp), RW.wrsy_yes h1]
  · rw [if_pos h1, RW.wrsy_no h1, if_pos h1]
theorem Open_nil (w : World) : Calls Tryz.prog 26 #[.pointer none] w fun e w' => e = .returned (.tuple #[.pointer none, .int .i64 1]) ∧ w = w' := by
  go_enter Tryz.func26, Tryz.ntmps26
  go_wp2
  go_ret2
  exact ⟨rfl, rfl⟩
/-- what Open leaves -/
def OpenOut (H : List UInt8 → List UInt8) (B b n db vb : Nat) (S : RW.Dk) (w : World) (e : Ending) (w' : World) : Prop :=
  (∃ pv', DiskAt w' B b n db vb pv' (RW.jopen H n S).2.2) ∧ Tch b db vb w w' ∧ Below B w w' ∧
    (((RW.jopen H n S).2.1 = none ∧ (RW.jopen H n S).1 ≠ 0 ∧ e = .returned (.tuple #[.pointer none, .int .i64 (RW.jopen H n S).1])) ∨
      ∃ rs jb rv, (RW.jopen H n S).1 = 0 ∧ (RW.jopen H n S).2.1 = some rs ∧ (∃ k, RW.ldL H RW.z32 S.vis = some (rs, k)) ∧ e = .returned (.tuple #[.pointer (some ⟨jb, 0, none⟩), .int .i64 0]) ∧ JrAt H w' w.heap.size jb b rv rs false)
section
variable {ev : Operand → Value} {o : Oper} {x y : Operand} {w : World}
theorem op_lens {s : ByteArray} (ho : o.op = .call { callee := .builtin .len, args := #[x], argTypes := #[9] }) (hx : ev x = .string s) : (execOp ev o).run Tryz.prog w = .ok (.value (.int .i64 s.size)) w := by
  unfold execOp
  rw [ho]
  go_simp
theorem op_mfs {p : Option Addr} (ho : o.op = .makeFunc (.func 47) #[x] #[]) (hx : ev x = .pointer p) : (execOp ev o).run Tryz.prog w = .ok (.value (.func (.func 47) #[.pointer p] #[])) w := by
  unfold execOp
  rw [ho]
  go_simp
theorem op_bf2 {p : Nat} {b : Nat} (ho : o.op = .buildSlice 164 2 #[(0, x), (1, y)]) (hx : ev x = wcl p) (hy : ev y = scl b) : (execOp ev o).run Tryz.prog w = .ok (.value (.slice (some ⟨w.heap.size, 0, none⟩) 2 2)) (w.alloc (.cells #[wcl p, scl b] 96)) := by
  unfold wcl at hx
  unfold scl at hy
  unfold wcl scl execOp
  rw [ho]
  go_simp
end
theorem cf_writing : ∀ args w, (callFunc 46 args).run Tryz.prog w = .ok (.enter 46 args) w := fun args w => by go_simp
theorem cf_first : ∀ args w, (callFunc 45 args).run Tryz.prog w = .ok (.enter 45 args) w := fun args w => by go_simp
set_option maxRecDepth 100000 in
set_option maxHeartbeats 8000000 in
theorem Open_any (B b n db vb : Nat) (pv : Value) (S : RW.Dk) (a : Addr) (K : Nat → Int) (ks : Array Value) (hks : RW.WsOk ks K) (w : World) (hD : DiskAt w B b n db vb pv S) (hp : S.pend.length < 900000) (hK : KLaid w ks) (hg : w.cell? ⟨1, 0, none⟩ = some (RW.jeW a)) :
    Calls Tryz.prog 26 #[.pointer (some ⟨b, 0, none⟩)] w (OpenOut (RW.sha K) B b n db vb S w) := by
  have hDH := hide hD
  have hRd := hide (read_any B b n db vb pv S 0 (n : Int) w hD)
  have hSz := hide (size_any w hD)
  have hBs := hide (show B ≤ w.heap.size from Nat.le_trans hD.hb (Nat.le_of_lt hD.lt.1))
  obtain ⟨off, left, dur, vis, pend⟩ := S
  have hn := hD.hn
  have hlv : vis.length = n := hD.lv
  cases off
  case true =>
    rw [show (RW.Dk.read ⟨true, left, dur, vis, pend⟩ n 0 (n : Int)) = (⟨#[]⟩, 221) from rfl] at hRd
    clear hD hn hlv hp hg hK
    go_enter Tryz.func26, Tryz.ntmps26
    go_wp2_with (first
      | (go_at_call 56; refine hSz.out.mono ?_; rintro e w' ⟨rfl, rfl⟩)
      | (go_at_call 57; refine hRd.out.mono ?_; rintro e w' ⟨rfl, rfl⟩))
    go_ret2
    exact ⟨⟨pv, hDH.out⟩, Tch.refl _ _ _ _, Below.refl _ _, .inl ⟨rfl, by show (221 : Int) ≠ 0; decide, rfl⟩⟩
  case false =>
    obtain ⟨V, hV⟩ : ∃ V : ByteArray, V = RW.strOf vis := ⟨_, rfl⟩
    have hVl : V.data.toList = vis := by rw [hV, RW.strOf_list]
    have hVs : V.size = n := by rw [hV, RW.strOf_size, hlv]
    rw [show (RW.Dk.read ⟨false, left, dur, vis, pend⟩ n 0 (n : Int)) = (V, 0) by
      unfold RW.Dk.read
      rw [if_neg (by simp), if_pos ((RW.insB_iff n _ _).2 ⟨by omega, by omega, by omega, by omega⟩)]
      rw [show (0 : Int).toNat = 0 from rfl, List.drop_zero, Int.toNat_natCast, ← hlv, List.take_length, hV]] at hRd
    have hOp := hide (open_any b V (by omega) a K ks hks w hK hg)
    rw [hVl] at hOp
    have hnx := hide (fun W (hW : Below w.heap.size w W) => (show DiskAt W B b n db vb pv ⟨false, left, dur, vis, pend⟩ ∧ Tch b db vb w W ∧ Below B w W from ⟨hDH.out.next hW, Tch.of_below hW, hW.mono hBs.out⟩))
    have hlvH := hide hlv
    have hVlH := hide hVl
    have hVsH := hide hVs
    clear hV hVl hlv hD
    rcases hL : RW.ldL (RW.sha K) RW.z32 vis with _ | ⟨rs, k⟩
    · have hJ := hide (show RW.jopen (RW.sha K) n ⟨false, left, dur, vis, pend⟩ = (232, none, ⟨false, left, dur, vis, pend⟩) by
        unfold RW.jopen
        simp only [Bool.false_eq_true, if_false, hL])
      have hO2 := hide (hOp.out.mono (fun e w' hh => (show Below w.heap.size w w' ∧ e = .returned (.tuple #[.pointer none, .int .i64 232]) from by
        obtain ⟨h1, ⟨_, h2⟩ | ⟨qs, m, jb, rv, h2, _⟩⟩ := hh
        · exact ⟨h1, h2⟩
        · rw [hL] at h2; cases h2)))
      clear hOp hL hg hK hp
      go_enter Tryz.func26, Tryz.ntmps26
      go_wp2_with (first
        | (go_at_call 56; refine hSz.out.mono ?_; rintro e w' ⟨rfl, rfl⟩)
        | (go_at_call 57; refine hRd.out.mono ?_; rintro e w' ⟨rfl, rfl⟩)
        | (go_at_call 59; refine hO2.out.mono ?_; rintro e w2 ⟨hB2, rfl⟩; have hB2H := hide hB2; clear hB2))
      go_ret2
      obtain ⟨q1, q2, q3⟩ := hnx.out _ hB2H.out
      refine ⟨⟨pv, by rw [hJ.out]; exact q1⟩, q2, q3, .inl ⟨by rw [hJ.out], by rw [hJ.out]; show (232 : Int) ≠ 0; decide, by rw [hJ.out] <;> rfl⟩⟩
    · obtain ⟨_, hkn, hkl, _, _⟩ := RW.ldL_sound' (RW.sha K) (RW.sha_len K) hL
      rw [hlvH.out] at hkn
      have hO2 := hide (hOp.out.mono (fun e w' hh => (show ∃ jb rv, Below w.heap.size w w' ∧ e = .returned (.tuple #[.pointer (some ⟨jb, 0, none⟩), .int .i64 0]) ∧ JrAt (RW.sha K) w' w.heap.size jb b rv rs false from by
        obtain ⟨h1, ⟨h2, _⟩ | ⟨qs, m, jb, rv, h2, h3, h4⟩⟩ := hh
        · rw [hL] at h2; cases h2
        · rw [hL] at h2
          cases h2
          exact ⟨jb, rv, h1, h3, h4⟩)))
      have hTr := hide (fun W => SH.strings_Trim_one (V.extract k n) 0 (by decide) W (by rw [ByteArray.size_extract]; omega))
      have hXl : (V.extract k n).data.toList = vis.drop k := by
        rw [RW.extract_eq V k n (by omega), hVlH.out, ← hlvH.out, ← List.length_drop, List.take_length]
      rw [hXl] at hTr
      have hk0 : (0 : Int) ≤ (k : Int) := by omega
      have hk1 : (k : Int) ≤ (n : Int) := by omega
      have hklH := hide hkl
      have hLH := hide hL
      clear hOp hL hg hK hXl hkl
      obtain ⟨Z, hZ⟩ : ∃ Z : ByteArray, Z = ⟨(Lib.trimB (vis.drop k) 0).toArray⟩ := ⟨_, rfl⟩
      rw [← hZ] at hTr
      cases hz : (vis.drop k).all (fun b => decide (b = 0))
      case true =>
        have hJ := hide (show RW.jopen (RW.sha K) n ⟨false, left, dur, vis, pend⟩ = (0, some rs, ⟨false, left, dur, vis, pend⟩) by
          unfold RW.jopen
          simp only [Bool.false_eq_true, if_false, hLH.out, hz, if_true])
        have hZ0 : Z = ⟨#[]⟩ := by rw [hZ, RW.trim_zeros hz]
        subst hZ0
        clear hz hZ hp
        go_enter Tryz.func26, Tryz.ntmps26
        go_upto_region 9 with (first
          | (go_at_call 56; refine hSz.out.mono ?_; rintro e w' ⟨rfl, rfl⟩)
          | (go_at_call 57; refine hRd.out.mono ?_; rintro e w' ⟨rfl, rfl⟩)
          | (go_at_call 59; refine hO2.out.mono ?_; rintro e w2 ⟨jb, rv, hB2, rfl, hJ2⟩; have hB2H := hide hB2; have hJr := hide hJ2; clear hB2 hJ2))
        have c2 : w2.cell? ⟨jb, 2, none⟩ = some (.int .i64 (k : Int)) := by rw [← hklH.out]; exact cell_of hJr.out.b (tpc2 _ _ _ _)
        go_wp2_with (go_at_call 60; refine (hTr.out _).mono ?_; rintro e w3 ⟨rfl, hw3⟩; have h3H := hide (show Below w2.heap.size w2 w3 by rcases hw3 with rfl | rfl; exact Below.refl _ _; exact (Below.refl _ _).drew); clear hw3)
        go_ret2
        have hB3 := hB2H.out.trans (h3H.out.mono hB2H.out.size)
        obtain ⟨q1, q2, q3⟩ := hnx.out _ hB3
        refine ⟨⟨pv, by rw [hJ.out]; exact q1⟩, q2, q3, .inr ⟨rs, jb, rv, by rw [hJ.out], by rw [hJ.out], ⟨k, hLH.out⟩, rfl, hJr.out.next h3H.out⟩⟩
      case false =>
        have hZe : Z.toList.isEmpty = false := RW.emp_no0 Z (by rw [hZ]; exact RW.trim_some hz)
        have hJw := hide (jopen_wr (n := n) (left := left) (dur := dur) (pend := pend) hLH.out hz)
        obtain ⟨q, hq⟩ : ∃ q : Nat, q = n - k := ⟨_, rfl⟩
        have hqi : (n : Int) - (k : Int) = (q : Int) := by omega
        have hqiH := hide hqi
        have hq4 := hide (show q ≤ 4194304 by omega)
        rw [← hq] at hJw
        obtain ⟨E, hE⟩ : ∃ E, E = RW.wrsy n ⟨false, left, dur, vis, pend⟩ k (List.replicate q 0) := ⟨_, rfl⟩
        rw [← hE] at hJw
        have hEH := hide hE
        have hpH := hide hp
        clear hZ hz hq hE hp hqi
        go_enter Tryz.func26, Tryz.ntmps26
        go_upto_region 9 with (first
          | (go_at_call 56; refine hSz.out.mono ?_; rintro e w' ⟨rfl, rfl⟩)
          | (go_at_call 57; refine hRd.out.mono ?_; rintro e w' ⟨rfl, rfl⟩)
          | (go_at_call 59; refine hO2.out.mono ?_; rintro e w2 ⟨jb, rv, hB2, rfl, hJ2⟩; have hB2H := hide hB2; have hJr := hide hJ2; clear hB2 hJ2))
        have c2 : w2.cell? ⟨jb, 2, none⟩ = some (.int .i64 (k : Int)) := by rw [← hklH.out]; exact cell_of hJr.out.b (tpc2 _ _ _ _)
        go_upto_region 10 with (go_at_call 60; refine (hTr.out _).mono ?_; rintro e w3 ⟨rfl, hw3⟩; have h3H := hide (show Below w2.heap.size w2 w3 by rcases hw3 with rfl | rfl; exact Below.refl _ _; exact (Below.refl _ _).drew); clear hw3)
        clear c2
        have hB3 := hide (hB2H.out.trans (h3H.out.mono hB2H.out.size))
        have hD3 := hide ((hnx.out _ hB3.out).1)
        have hT3 := hide ((hnx.out _ hB3.out).2)
        have hJ3 := hide (hJr.out.next h3H.out)
        have c3W := hide (fun W (hW : Below w3.heap.size w3 W) => (show W.cell? ⟨jb, 2, none⟩ = some (.int .i64 (k : Int)) from by rw [← hklH.out]; exact cell_of (hJ3.out.next hW).b (tpc2 _ _ _ _)))
        clear hJr h3H hB2H hTr
        refine wp_region_k (fun h W => 20 ∈ h ∨ Below w3.heap.size w3 W) (fun _ => True) [14, 15, 16, 19, 20] (.op 0 (.op 1 (.op 2 (.op 3 (.op 4 (.op 5 (.op 6 (.op 7 (.op 8 (.op 9 (.op 10 (.op 11 (.op 12 (.op 13 (.op 17 (.op 18 (.op 14 (.op 15 (.op 16 (.op 19 (.op 20 (.op 21 .nil)))))))))))))))))))))) (by kernel_rfl) (by kernel_rfl) (by rfl) (by kernel_rfl) (.inr (Below.refl w3.heap.size w3).drew) trivial ?_
        refine k_val (.pointer (some ⟨jb, 0, none⟩)) (by apply opN; repeat' (first | apply OpAt.z | apply OpAt.s)) (by rfl) (by rfl) (fun _ W hS => op_mv rfl rfl) ?_
        simp only [Act.put, List.setIfInBounds_toArray, List.set_cons_zero, List.set_cons_succ]
        refine k_val (.pointer (some ⟨jb, 0, none⟩)) (by apply opN; repeat' (first | apply OpAt.z | apply OpAt.s)) (by rfl) (by rfl) (fun _ W hS => op_mv rfl rfl) ?_
        simp only [Act.put, List.setIfInBounds_toArray, List.set_cons_zero, List.set_cons_succ]
        refine k_val (.pointer (some ⟨jb, 0, none⟩)) (by apply opN; repeat' (first | apply OpAt.z | apply OpAt.s)) (by rfl) (by rfl) (fun _ W hS => op_nc rfl rfl) ?_
        simp only [Act.put, List.setIfInBounds_toArray, List.set_cons_zero, List.set_cons_succ]
        refine k_val (.pointer (some ⟨jb, 0, none⟩)) (by apply opN; repeat' (first | apply OpAt.z | apply OpAt.s)) (by rfl) (by rfl) (fun _ W hS => op_fa rfl rfl (fa_jt W)) ?_
        simp only [Act.put, List.setIfInBounds_toArray, List.set_cons_zero, List.set_cons_succ]
        refine k_val (.pointer (some ⟨jb, 2, none⟩)) (by apply opN; repeat' (first | apply OpAt.z | apply OpAt.s)) (by rfl) (by rfl) (fun _ W hS => op_fa rfl rfl (fa_tp2 W)) ?_
        simp only [Act.put, List.setIfInBounds_toArray, List.set_cons_zero, List.set_cons_succ]
        refine k_bef 20 (.int .i64 (k : Int)) (by apply opN; repeat' (first | apply OpAt.z | apply OpAt.s)) (by rfl) (by rfl) (by decide +kernel) (by rfl) (fun _ W hg hS => op_ld rfl rfl (jint_ld (c3W.out W (hS.resolve_left hg)))) ?_
        simp only [Act.put, List.setIfInBounds_toArray, List.set_cons_zero, List.set_cons_succ]
        refine k_val (.string V) (by apply opN; repeat' (first | apply OpAt.z | apply OpAt.s)) (by rfl) (by rfl) (fun _ W hS => op_mv rfl rfl) ?_
        simp only [Act.put, List.setIfInBounds_toArray, List.set_cons_zero, List.set_cons_succ]
        refine k_val (.int .i64 (n : Int)) (by apply opN; repeat' (first | apply OpAt.z | apply OpAt.s)) (by rfl) (by rfl) (fun _ W hS => (op_lens rfl rfl).trans (by rw [hVsH.out])) ?_
        simp only [Act.put, List.setIfInBounds_toArray, List.set_cons_zero, List.set_cons_succ]
        refine k_val (.pointer (some ⟨jb, 0, none⟩)) (by apply opN; repeat' (first | apply OpAt.z | apply OpAt.s)) (by rfl) (by rfl) (fun _ W hS => op_mv rfl rfl) ?_
        simp only [Act.put, List.setIfInBounds_toArray, List.set_cons_zero, List.set_cons_succ]
        refine k_val (.pointer (some ⟨jb, 0, none⟩)) (by apply opN; repeat' (first | apply OpAt.z | apply OpAt.s)) (by rfl) (by rfl) (fun _ W hS => op_nc rfl rfl) ?_
        simp only [Act.put, List.setIfInBounds_toArray, List.set_cons_zero, List.set_cons_succ]
        refine k_val (.pointer (some ⟨jb, 0, none⟩)) (by apply opN; repeat' (first | apply OpAt.z | apply OpAt.s)) (by rfl) (by rfl) (fun _ W hS => op_fa rfl rfl (fa_jt W)) ?_
        simp only [Act.put, List.setIfInBounds_toArray, List.set_cons_zero, List.set_cons_succ]
        refine k_val (.pointer (some ⟨jb, 2, none⟩)) (by apply opN; repeat' (first | apply OpAt.z | apply OpAt.s)) (by rfl) (by rfl) (fun _ W hS => op_fa rfl rfl (fa_tp2 W)) ?_
        simp only [Act.put, List.setIfInBounds_toArray, List.set_cons_zero, List.set_cons_succ]
        refine k_bef 20 (.int .i64 (k : Int)) (by apply opN; repeat' (first | apply OpAt.z | apply OpAt.s)) (by rfl) (by rfl) (by decide +kernel) (by rfl) (fun _ W hg hS => op_ld rfl rfl (jint_ld (c3W.out W (hS.resolve_left hg)))) ?_
        simp only [Act.put, List.setIfInBounds_toArray, List.set_cons_zero, List.set_cons_succ]
        refine k_val (.int .i64 (q : Int)) (by apply opN; repeat' (first | apply OpAt.z | apply OpAt.s)) (by rfl) (by rfl) (fun _ W hS => op_subj rfl rfl rfl hqiH.out (by have := hq4.out; omega)) ?_
        simp only [Act.put, List.setIfInBounds_toArray, List.set_cons_zero, List.set_cons_succ]
        refine k_val (.pointer (some ⟨b, 0, none⟩)) (by apply opN; repeat' (first | apply OpAt.z | apply OpAt.s)) (by rfl) (by rfl) (fun _ W hS => op_mv rfl rfl) ?_
        simp only [Act.put, List.setIfInBounds_toArray, List.set_cons_zero, List.set_cons_succ]
        refine k_val (scl b) (by apply opN; repeat' (first | apply OpAt.z | apply OpAt.s)) (by rfl) (by rfl) (fun _ W hS => op_mfs rfl rfl) ?_
        simp only [Act.put, List.setIfInBounds_toArray, List.set_cons_zero, List.set_cons_succ]
        refine k_step (fun K' u => ∃ g, u = .slice (some ⟨g, 0, none⟩) q q ∧ K' = fun W => W.heap[g]? = some (.cells (RW.byl (List.replicate q 0)).toArray 5 (0, 0))) (by apply opN; repeat' (first | apply OpAt.z | apply OpAt.s)) (by rfl) (by rfl) (by rfl) (fun W hCW hK => ?_) ?_
        · exact xup_val (op_make hq4.out rfl rfl rfl) ⟨.inr (alloc_bel (hCW.resolve_left (by decide)) (Nat.le_refl _) _), _, alloc_at1 W _, W.heap.size, rfl, rfl⟩
        rintro _ _ ⟨g, rfl, rfl⟩
        simp only [Act.put, List.setIfInBounds_toArray, List.set_cons_zero, List.set_cons_succ]
        refine k_step (fun K' u => u = .string (RW.strOf (List.replicate q 0)) ∧ K' = fun _ => True) (by apply opN; repeat' (first | apply OpAt.z | apply OpAt.s)) (by rfl) (by rfl) (by rfl) (fun W hCW hK => ?_) ?_
        · exact xup_val (op_cv rfl rfl hK (by simp)) ⟨.inr (hCW.resolve_left (by decide)), _, trivial, rfl, rfl⟩
        rintro _ _ ⟨rfl, rfl⟩
        simp only [Act.put, List.setIfInBounds_toArray, List.set_cons_zero, List.set_cons_succ]
        refine k_step (fun K' u => ∃ p, u = wcl p ∧ K' = fun W => WrC W p jb (k : Int) (RW.strOf (List.replicate q 0))) (by apply opN; repeat' (first | apply OpAt.z | apply OpAt.s)) (by rfl) (by rfl) (by rfl) (fun W hCW hK => ?_) ?_
        · refine op_x3 rfl rfl rfl rfl rfl cf_writing ?_
          refine (writing_any jb (k : Int) (RW.strOf (List.replicate q 0)) W).mono ?_
          rintro e W' ⟨rfl, rfl⟩
          obtain ⟨h4, h5⟩ := WrC.new W jb (k : Int) (RW.strOf (List.replicate q 0))
          exact ⟨_, rfl, .inr ((hCW.resolve_left (by decide)).trans (h5.mono (hCW.resolve_left (by decide)).size)), _, h4, W.heap.size, rfl, rfl⟩
        rintro _ _ ⟨p, rfl, rfl⟩
        simp only [Act.put, List.setIfInBounds_toArray, List.set_cons_zero, List.set_cons_succ]
        refine k_step (fun K' u => ∃ g2, u = .slice (some ⟨g2, 0, none⟩) 2 2 ∧ K' = fun W => WrC W p jb (k : Int) (RW.strOf (List.replicate q 0)) ∧ W.heap[g2]? = some (.cells #[wcl p, scl b] 96 (0, 0))) (by apply opN; repeat' (first | apply OpAt.z | apply OpAt.s)) (by rfl) (by rfl) (by rfl) (fun W hCW hK => ?_) ?_
        · exact xup_val (op_bf2 rfl rfl rfl) ⟨.inr (alloc_bel (hCW.resolve_left (by decide)) (Nat.le_refl _) _), _, ⟨hK.next (alloc_bel (Below.refl _ _) (Nat.le_refl _) _), alloc_at1 W _⟩, W.heap.size, rfl, rfl⟩
        rintro _ _ ⟨g2, rfl, rfl⟩
        simp only [Act.put, List.setIfInBounds_toArray, List.set_cons_zero, List.set_cons_succ]
        refine k_step (fun K' u => u = .int .i64 E.1 ∧ K' = fun W => ∃ pv', DiskAt W B b n db vb pv' E.2 ∧ JrAt (RW.sha K) W w.heap.size jb b rv rs false ∧ WrC W p jb (k : Int) (RW.strOf (List.replicate q 0)) ∧ W.heap[g2]? = some (.cells #[wcl p, scl b] 96 (0, 0)) ∧ Tch b db vb w3 W ∧ Below B w3 W) (by apply opN; repeat' (first | apply OpAt.z | apply OpAt.s)) (by rfl) (by rfl) (by rfl) (fun W hCW hK => ?_) ?_
        · have hb9 := hCW.resolve_left (by decide)
          have h0 : (fun W => JrAt (RW.sha K) W w.heap.size jb b rv rs false ∧ WrC W p jb (k : Int) (RW.strOf (List.replicate q 0)) ∧ W.heap[g2]? = some (.cells #[wcl p, scl b] 96 (0, 0)) ∧ Tch b db vb w3 W ∧ Below B w3 W) W := ⟨hJ3.out.next hb9, hK.1, hK.2, Tch.of_below hb9, hb9.mono (Nat.le_trans hBs.out hB3.out.size)⟩
          refine op_x1 rfl rfl rfl cf_first ?_
          refine (first2 (H := RW.sha K) (rv := rv) (rs := rs) (br := false) (Fr := fun W => JrAt (RW.sha K) W w.heap.size jb b rv rs false ∧ WrC W p jb (k : Int) (RW.strOf (List.replicate q 0)) ∧ W.heap[g2]? = some (.cells #[wcl p, scl b] 96 (0, 0)) ∧ Tch b db vb w3 W ∧ Below B w3 W) (fun W1 W2 pv1 S1 hd1 hf1 ht1 hbb1 => ⟨hf1.1.tch hd1 ht1, hf1.2.1.tch hd1 ht1, tch_keep hf1.2.2.1 hd1 ht1 (by decide), hf1.2.2.2.1.trans ht1, hf1.2.2.2.2.trans hbb1⟩) (fun W1 hf1 => ⟨hf1.1.mono hBs.out, hf1.2.1⟩) (fun W1 hf1 => hf1.2.2.1) hpH.out (by rw [List.length_replicate]; exact hq4.out) (hD3.out.next hb9) h0).mono ?_
          rintro e W' ⟨rfl, h4⟩
          rw [← hEH.out] at h4 ⊢
          exact ⟨_, rfl, .inl (by decide), _, h4, rfl, rfl⟩
        rintro _ _ ⟨rfl, rfl⟩
        simp only [Act.put, List.setIfInBounds_toArray, List.set_cons_zero, List.set_cons_succ]
        refine k_val (.int .i64 E.1) (by apply opN; repeat' (first | apply OpAt.z | apply OpAt.s)) (by rfl) (by rfl) (fun _ W hS => op_asg rfl rfl) ?_
        simp only [Act.put, List.setIfInBounds_toArray, List.set_cons_zero, List.set_cons_succ]
        refine k_nil ?_
        intro W hCW hK
        obtain ⟨pv', hD9, hJ9, _, _, hT9, hB9⟩ := hK
        have hD9H := hide hD9
        have hJ9H := hide hJ9
        have hT9H := hide (hT3.out.1.trans hT9)
        have hB9H := hide (hT3.out.2.trans hB9)
        clear hCW hD9 hJ9 hT9 hB9 hD3 hT3 hJ3 c3W
        obtain ⟨E1, E2⟩ := E
        by_cases hE0 : E1 = 0
        · subst hE0
          have hJ := hide (show RW.jopen (RW.sha K) n ⟨false, left, dur, vis, pend⟩ = (0, some rs, E2) by rw [hJw.out, if_neg (by simp)])
          clear hJw hEH
          go_wp2
          go_ret2
          exact ⟨⟨pv', by rw [hJ.out]; exact hD9H.out⟩, hT9H.out, hB9H.out, .inr ⟨rs, jb, rv, by rw [hJ.out], by rw [hJ.out], ⟨k, hLH.out⟩, rfl, hJ9H.out⟩⟩
        · have hJ := hide (show RW.jopen (RW.sha K) n ⟨false, left, dur, vis, pend⟩ = (E1, none, E2) by rw [hJw.out, if_pos hE0])
          have hne : (E1 != 0) = true := by simp [hE0]
          have hE0H := hide hE0
          clear hJw hEH hE0
          go_wp2
          go_ret2
          exact ⟨⟨pv', by rw [hJ.out]; exact hD9H.out⟩, hT9H.out, hB9H.out, .inl ⟨by rw [hJ.out], by rw [hJ.out]; exact hE0H.out, by rw [hJ.out] <;> rfl⟩⟩
end Go.Proofs.YtllbphanfahkkaaGreatDoor

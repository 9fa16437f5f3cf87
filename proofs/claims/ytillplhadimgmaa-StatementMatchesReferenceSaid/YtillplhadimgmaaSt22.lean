/-
  Package royaltyref19: Decode: what it returns; only new memory is written.
-/
import Derived.Test.YtillplhadimgmaaSt21
import Derived.Test.YtillplhadimgmaaSt16
import Derived.Test.YtillplhadimgmaaWireI3
namespace Go.Proofs.Ytillplhadimgmaa
open Go.RowKit RG
namespace RW
open Go
/-- behind the first numbers, fewer than three -/
def pre (acc : List Int) (r : List UInt8) : Got := match decZ (3 - acc.length) r with
  | none => .wire
  | some (q, r') => match acc ++ q with
    | [h, c, n] => lines h c n r'
    | _ => .wire
theorem pre_nil (r : List UInt8) : decT r = pre [] r := by
  unfold decT pre
  rw [show 3 - ([] : List Int).length = 3 from rfl]
  rcases hd : decZ 3 r with _ | ⟨q, r'⟩
  · rfl
  · obtain ⟨a, b, c, rfl⟩ := three hd rfl
    rfl
theorem pre_none {acc : List Int} {r : List UInt8} (ha : acc.length < 3) (h : decI r = none) : pre acc r = .wire := by
  unfold pre
  rw [show 3 - acc.length = (2 - acc.length) + 1 by omega, decZ_none h]
theorem pre_some {acc : List Int} {r : List UInt8} {n : Int} {c : Nat} (ha : acc.length < 3) (h : decI r = some (n, c)) : pre acc r = pre (acc ++ [n]) (r.drop c) := by
  unfold pre
  rw [show 3 - acc.length = (2 - acc.length) + 1 by omega, decZ_some h, List.length_append, show 3 - (acc.length + [n].length) = 2 - acc.length by rw [List.length_singleton]; omega]
  rcases hd : decZ (2 - acc.length) (r.drop c) with _ | ⟨q, r'⟩
  · rfl
  · show (match acc ++ n :: q with | [h, c, n] => lines h c n r' | _ => Got.wire) = (match acc ++ [n] ++ q with | [h, c, n] => lines h c n r' | _ => Got.wire)
    rw [List.append_assoc, List.singleton_append]
theorem pre_three (h c n : Int) (r : List UInt8) : pre [h, c, n] r = lines h c n r := by
  unfold pre
  rw [show 3 - [h, c, n].length = 0 from rfl, decZ]
  rfl
/-- behind the first numbers of the lines: k further ones -/
def restZ (h c : Int) (zs : List Int) (k : Nat) (r : List UInt8) : Got := match decZ k r with
  | none => .wire
  | some (q, r') => fin h c (lnsOf (zs ++ q)) r'
theorem restZ_of (h c : Int) (n : Nat) (r : List UInt8) : rest h c [] n r = restZ h c [] (3 * n) r := by
  unfold rest restZ
  rcases decZ (3 * n) r with _ | ⟨q, r'⟩
  · rfl
  · simp
theorem restZ_none {h c : Int} {zs : List Int} {k : Nat} {r : List UInt8} (hd : decI r = none) : restZ h c zs (k + 1) r = .wire := by
  unfold restZ
  rw [decZ_none hd]
theorem restZ_some {h c : Int} {zs : List Int} {k d : Nat} {r : List UInt8} {n : Int} (hd : decI r = some (n, d)) : restZ h c zs (k + 1) r = restZ h c (zs ++ [n]) k (r.drop d) := by
  unfold restZ
  rw [decZ_some hd]
  rcases decZ k (r.drop d) with _ | ⟨q, r'⟩
  · rfl
  · show fin h c (lnsOf (zs ++ n :: q)) r' = fin h c (lnsOf (zs ++ [n] ++ q)) r'
    rw [List.append_assoc, List.singleton_append]
theorem restZ_zero (h c : Int) (zs : List Int) (r : List UInt8) : restZ h c zs 0 r = fin h c (lnsOf zs) r := by
  unfold restZ
  rw [decZ]
  simp
theorem flat_get : ∀ (l : List Ln) (j : Nat) (x : Ln), l[j]? = some x → (flatZ l)[3 * j]? = some x.1 ∧ (flatZ l)[3 * j + 1]? = some x.2.1 ∧ (flatZ l)[3 * j + 2]? = some x.2.2
  | [], j, x, h => by simp at h
  | y :: l, 0, x, h => by
    cases h
    rw [flatZ_cons]
    exact ⟨rfl, rfl, rfl⟩
  | y :: l, j + 1, x, h => by
    have := flat_get l j x (by simpa using h)
    rw [flatZ_cons]
    exact this
/-- where the reference's reading stands -/
def RdS (G : Got) (acc : List Int) (k : Nat) (r : List UInt8) : Prop :=
  (acc.length < 3 ∧ k = 3 ∧ G = pre acc r) ∨ ∃ (h c : Int) (n : Nat) (zs : List Int), acc = h :: c :: (n : Int) :: zs ∧ 1 ≤ n ∧ n ≤ 1200 ∧ k = 3 + 3 * n ∧ zs.length ≤ 3 * n ∧ G = restZ h c zs (3 * n - zs.length) r
theorem RdS.off {G : Got} {acc : List Int} {k : Nat} {r : List UInt8} (h : RdS G acc k r) (hk : acc.length < k) (hd : decI r = none) : G = .wire := by
  rcases h with ⟨h1, _, h3⟩ | ⟨a, c, n, zs, rfl, h1, h2, rfl, h4, h5⟩
  · rw [h3, pre_none h1 hd]
  · simp at hk
    rw [h5, show 3 * n - zs.length = (3 * n - zs.length - 1) + 1 by omega, restZ_none hd]
theorem RdS.on {G : Got} {acc : List Int} {k d : Nat} {r : List UInt8} {m : Int} (h : RdS G acc k r) (hk : acc.length < k) (hd : decI r = some (m, d)) (h3 : acc.length + 1 ≠ 3) : RdS G (acc ++ [m]) k (r.drop d) := by
  rcases h with ⟨h1, h2, h4⟩ | ⟨a, c, n, zs, rfl, h1, h2, rfl, h4, h5⟩
  · exact .inl ⟨by rw [List.length_append]; simp; omega, h2, by rw [h4, pre_some h1 hd]⟩
  · simp at hk
    refine .inr ⟨a, c, n, zs ++ [m], rfl, h1, h2, rfl, by rw [List.length_append]; simp; omega, ?_⟩
    rw [h5, show 3 * n - zs.length = (3 * n - (zs ++ [m]).length) + 1 by rw [List.length_append]; simp; omega, restZ_some hd]
theorem RdS.three {G : Got} {acc : List Int} {k d : Nat} {r : List UInt8} {m : Int} (h : RdS G acc k r) (hd : decI r = some (m, d)) (h3 : acc.length + 1 = 3) : ∃ a c, acc = [a, c] ∧ G = lines a c m (r.drop d) := by
  rcases h with ⟨h1, h2, h4⟩ | ⟨a, c, n, zs, rfl, h1, h2, rfl, h4, h5⟩
  · rcases acc with _ | ⟨a, _ | ⟨c, _ | ⟨e, acc⟩⟩⟩
    · simp at h3
    · simp at h3
    · exact ⟨a, c, rfl, by rw [h4, pre_some h1 hd, List.cons_append, List.cons_append, List.nil_append, pre_three]⟩
    · simp at h1 <;> omega
  · simp at h3 <;> omega
theorem RdS.go {G : Got} {a c : Int} {n : Nat} {r : List UInt8} (h : G = lines a c n r) (h1 : 1 ≤ n) (h2 : n ≤ 1200) : RdS G [a, c, (n : Int)] (3 + 3 * n) r :=
  .inr ⟨a, c, n, [], rfl, h1, h2, rfl, Nat.zero_le _, by rw [h, lines_go (by omega) (by omega), Int.toNat_natCast, restZ_of]; rfl⟩
theorem RdS.stop {G : Got} {acc : List Int} {k : Nat} {r : List UInt8} (h : RdS G acc k r) (hk : ¬ acc.length < k) : ∃ (a c : Int) (n : Nat) (ls : List Ln), acc = a :: c :: (n : Int) :: flatZ ls ∧ 1 ≤ n ∧ n ≤ 1200 ∧ k = 3 + 3 * n ∧ ls.length = n ∧ G = fin a c ls r := by
  rcases h with ⟨h1, h2, h4⟩ | ⟨a, c, n, zs, rfl, h1, h2, rfl, h4, h5⟩
  · omega
  · simp at hk
    have hz : zs.length = 3 * n := by omega
    exact ⟨a, c, n, lnsOf zs, by rw [flat_lnsOf n zs hz], h1, h2, rfl, lnsOf_len n zs hz, by rw [h5, hz, Nat.sub_self, restZ_zero]⟩
end RW
def lenOf : Value → Nat
  | .slice _ n _ => n
  | _ => 0
theorem rdec_results (tmps : Array Value) (w : World) (B : Nat) (cs : Array Value) (v : Int) (hn : cs.size = 3) (h2 : tmps[2]? = some (.pointer (some ⟨B, 0, none⟩))) (h3 : tmps[3]? = some (.int .i64 v))
    (hx : w.heap[B]? = some (.cells cs 39 (0, 0))) :
    (results Try.f23 tmps).run Try.prog w = .ok (.tuple #[.agg cs, .int .i64 v]) w := by
  have hi1 : (Try.prog.info? 39).map (·.size) = some cs.size := by rw [hn]; kernel_rfl
  have e1 := run_loadVar_row (P := Try.prog) w B 39 39 cs (0, 0) _ hx Try.underlying39 rfl hi1
  simp [results, Try.results23, h2, h3, asAddr, e1]
section
variable {ev : Operand → Value} {o : Oper} {x y z : Operand} {w : World} {a : Nat}
theorem op_add1 (ho : o.op = .binOp .add 3 x y 3) (hx : ev x = .int .i64 (a : Int)) (hy : ev y = .int .i64 1) (ha : a ≤ 1000000) : (execOp ev o).run Try.prog w = .ok (.value (.int .i64 ((a + 1 : Nat) : Int))) w := by
  unfold execOp
  rw [ho]
  simp only [hx, hy]
  go_simp
  rw [IntKind.wrap_i64]
  omega
theorem op_add2 (ho : o.op = .binOp .add 3 x y 3) (hx : ev x = .int .i64 (a : Int)) (hy : ev y = .int .i64 2) (ha : a ≤ 1000000) : (execOp ev o).run Try.prog w = .ok (.value (.int .i64 ((a + 2 : Nat) : Int))) w := by
  unfold execOp
  rw [ho]
  simp only [hx, hy]
  go_simp
  rw [IntKind.wrap_i64]
  omega
theorem op_bst {h c : Int} (ho : o.op = .build 39 #[(0, x), (1, y)]) (hx : ev x = .int .i64 h) (hy : ev y = .int .i64 c) : (execOp ev o).run Try.prog w = .ok (.value (.agg #[.int .i64 h, .int .i64 c, .slice none 0 0])) w := by
  unfold execOp
  rw [ho]
  go_simp
theorem op_bsl {q : RW.Ln} (ho : o.op = .buildSlice 37 1 #[(0, x)]) (hx : ev x = .agg #[.int .i64 q.1, .int .i64 q.2.1, .int .i64 q.2.2]) : (execOp ev o).run Try.prog w = .ok (.value (.slice (some ⟨w.heap.size, 0, none⟩) 1 1)) (w.alloc (.cells (RW.lnl q).toArray 61)) := by
  unfold execOp
  rw [ho]
  go_simp
  rfl
theorem op_sts {b : Nat} {p : Option Addr} {n c : Nat} {u : Value} (ho : o.op = .store 37 x y) (hx : ev x = .pointer (some ⟨b, 2, none⟩)) (hy : ev y = .slice p n c) (hc : w.cell? ⟨b, 2, none⟩ = some u) (hf : w.frozen? ⟨b, 2, none⟩ = false) :
    (execOp ev o).run Try.prog w = .ok .skip (w.setCell ⟨b, 2, none⟩ (.slice p n c)) := by
  unfold execOp
  rw [ho]
  go_simp
end
theorem ix_int0 {b o n c : Nat} (hj : 0 < n) (W : World) : (Instr.indexAt 36 (.slice (some ⟨b, o, none⟩) n c) (.int .i64 0)).run Try.prog W = .ok (.pointer (some ⟨b, o, none⟩)) W := ix_int (j := 0) hj W
theorem ix_int1 {b o n c : Nat} (hj : 1 < n) (W : World) : (Instr.indexAt 36 (.slice (some ⟨b, o, none⟩) n c) (.int .i64 1)).run Try.prog W = .ok (.pointer (some ⟨b, o + 1, none⟩)) W := ix_int (j := 1) hj W
set_option maxRecDepth 10000 in
set_option maxHeartbeats 8000000 in
theorem rdecode_any (s : ByteArray) (hs : s.size ≤ 9223372036854775807) (w : World) :
    Calls Try.prog 23 #[.string s] w fun e w' => DecOut (RW.decT s.data.toList) e w.heap.size w' ∧ Below w.heap.size w w' := by
  obtain ⟨B, hBe⟩ : ∃ B, B = w.heap.size := ⟨_, rfl⟩
  obtain ⟨L, hLe⟩ : ∃ L, L = s.data.toList := ⟨_, rfl⟩
  obtain ⟨G, hGe⟩ : ∃ G, G = RW.decT L := ⟨_, rfl⟩
  have hlen : L.length = s.size := by rw [hLe, Array.length_toList]; rfl
  rw [← hLe, ← hGe]
  have hBH := hide hBe
  have hLH := hide hLe
  have hGH := hide hGe
  have hlenH := hide hlen
  have hA0 := hide (alloc_bel (Below.refl w.heap.size w) (Nat.le_refl _) (.cells #[.int .i64 0, .int .i64 0, .slice none 0 0] 39))
  have hg0 := hide (show (w.alloc (.cells #[.int .i64 0, .int .i64 0, .slice none 0 0] 39)).heap[B]? = some (.cells #[.int .i64 0, .int .i64 0, .slice none 0 0] 39 (0, 0)) from newAt hBe)
  have hz0 := hide (show (w.alloc (.cells #[.int .i64 0, .int .i64 0, .slice none 0 0] 39)).heap.size = B + 1 by rw [alloc_size, hBe])
  rw [← hBe] at hA0 ⊢
  clear hLe hGe hlen
  have hnoI := st_arr 0 0 none 0 0
  have hnoO := st_arr1 0 0 none 0 0
  go_enter Try.func23, Try.ntmps23
  go_upto_region 4 with fail
  rw [← hBe]
  clear hBe
  go_loopw [4, 5, 6] (fun u p q wr => ∃ (acc : List Int) (a k : Nat), p = .int .i64 a ∧ q = .int .i64 k ∧ acc.length ≤ k ∧ k ≤ 3603 ∧ lenOf u = acc.length ∧ Hid (IntsO wr (B + 1) u acc ∧ Below B w wr ∧ wr.heap[B]? = some (.cells #[.int .i64 0, .int .i64 0, .slice none 0 0] 39 (0, 0)) ∧ B + 1 ≤ wr.heap.size ∧ a ≤ L.length ∧ RW.RdS G acc k (L.drop a))) (fun u _ _ _ => 4000 - lenOf u)
  case atStart => exact ⟨[], 0, 3, rfl, rfl, by simp, by omega, rfl, IntsO.nil _ _, hA0.out, hg0.out, Nat.le_of_eq hz0.out.symm, Nat.zero_le _, .inl ⟨by simp, rfl, by rw [hGH.out]; exact RW.pre_nil _⟩⟩
  case round =>
    obtain ⟨acc, a, k, rfl, rfl, hak, hk3, hlu, hQ⟩ := hrel
    obtain ⟨wo, hwo⟩ : ∃ wo, wo = wr := ⟨_, rfl⟩
    subst hwo
    have hI := hide hQ.out.1
    have hBw := hide hQ.out.2.1
    have hb0 := hide hQ.out.2.2.1
    have hsz := hide hQ.out.2.2.2.1
    have hal := hide hQ.out.2.2.2.2.1
    have hst := hide hQ.out.2.2.2.2.2
    clear hQ hA0 hg0 hz0 hlu
    obtain ⟨av, cv, hue⟩ := hI.out.form
    obtain ⟨m, hm⟩ : ∃ m, m = acc.length := ⟨_, rfl⟩
    have hmH := hide hm
    rw [← hm] at hue hak
    subst hue
    clear hm
    by_cases hmk : m < k
    · have hI5 := hide (rint_walk s a wo (by omega) (by have := hal.out; have := hlenH.out; omega))
      rcases hd : RW.decI (L.drop a) with _ | ⟨n, d⟩
      · have hGb := hide (show G = .wire from hst.out.off (by rw [← hmH.out]; exact hmk) hd)
        rw [← hLH.out, hd] at hI5
        simp only [intRes] at hI5
        clear hd
        go_wp2_with (first
          | (go_at_call 41; refine hI5.out.mono ?_; rintro e w5 ⟨rfl, hB5⟩; have hB5H := hide hB5; have hres := (hB5.block B (Nat.lt_of_succ_le hsz.out)).trans hb0.out; clear hB5)
          | (refine wpList_store_row rfl 39 (.tmp 2) (.tmp 26) rfl B #[.int .i64 0, .int .i64 0, .slice none 0 0] rfl rfl 39 _ hres hnoI rfl hnoO ?_))
        refine bodyPost_ret (rdec_results _ _ B #[.int .i64 0, .int .i64 0, .slice none 0 0] 10 rfl rfl rfl (setRow_heap _ _ _ _ _ _ ((hB5H.out.block B (Nat.lt_of_succ_le hsz.out)).trans hb0.out))) rfl ⟨by rw [hGb.out]; rfl, belowSetRow (hBH.out ▸ hBw.out.trans (hB5H.out.mono (Nat.le_of_succ_le hsz.out))) (by have := hBH.out; omega) _⟩
      · have hle := (RW.decI_le _ _ _ hd).2.1
        rw [List.length_drop] at hle
        obtain ⟨a2, ha2⟩ : ∃ a2, a2 = a + d := ⟨_, rfl⟩
        have hdr := hide (show (L.drop a).drop d = L.drop a2 by rw [List.drop_drop, ha2])
        have hal2 := hide (show a2 ≤ L.length by have := hal.out; omega)
        have hdH := hide hd
        rw [← hLH.out, hd] at hI5
        simp only [intRes] at hI5
        rw [← ha2] at hI5
        have hI6 := hide (fun (W : World) (hW : Below wo.heap.size wo W) => (hI.out.next hW).appNew n (by have := hmH.out; omega) (Nat.le_trans hsz.out hW.size))
        clear hd hle ha2
        by_cases h3 : m + 1 = 3
        · obtain ⟨x, y, hacc, hGl⟩ := hst.out.three hdH.out (by rw [← hmH.out]; exact h3)
          rw [hdr.out] at hGl
          have haccH := hide hacc
          have hGlH := hide hGl
          clear hacc hGl
          obtain rfl : m = 2 := by omega
          have hfin := hide (fun (W : World) (hW : Below wo.heap.size wo W) => (show ∃ a8 c8 W8, (Builtin.append_ #[36, 36] 36 #[.slice av 2 cv, .slice (some ⟨W.heap.size, 0, none⟩) 1 1]).run Try.prog (W.alloc (.cells #[.int .i64 n] 3)) = .ok (.slice a8 3 c8) W8 ∧ IntsO W8 (B + 1) (.slice a8 3 c8) [x, y, n] ∧ Below (B + 1) wo W8 from by
            obtain ⟨v8, w8, hrun, hO8, hB8⟩ := hI6.out W hW
            rw [haccH.out] at hO8
            obtain ⟨a8, c8, e8⟩ := hO8.form
            subst e8
            exact ⟨a8, c8, w8, hrun, hO8, (hW.mono hsz.out).trans hB8⟩))
          clear hI6
          by_cases hgood : 1 ≤ n ∧ n ≤ 1200
          · obtain ⟨nn, hnn⟩ : ∃ nn : Nat, (nn : Int) = n := ⟨n.toNat, by omega⟩
            obtain ⟨k1, k2⟩ := hgood
            subst hnn
            have hGo := hide (RW.RdS.go hGlH.out (by omega) (by omega))
            go_upto_region 8 with (go_at_call 41; refine hI5.out.mono ?_; rintro e w5 ⟨rfl, hB5⟩; have hB5H := hide hB5; clear hB5)
            obtain ⟨a8, c8, w8, hrun, hO8, hB8⟩ := hfin.out w5 hB5H.out
            have hO8H := hide hO8
            have hB8H := hide hB8
            clear hO8 hB8
            go_wp2_with (at_builtin; refine wpList_app_run rfl (.tmp 27) (.tmp 29) rfl rfl rfl hrun ?_)
            go_roundw
            case rel => exact ⟨[x, y, (nn : Int)], a2, 3 + 3 * nn, by go_num, by go_num, by simp <;> omega, by omega, rfl, hO8H.out, hBw.out.trans (hB8H.out.mono (Nat.le_succ B)), (hB8H.out.block B (Nat.lt_succ_self B)).trans hb0.out, Nat.le_trans hsz.out hB8H.out.size, hal2.out, hGo.out⟩
            case measure => simp [lenOf]
          · have hGb := hide (show G = .bad by rw [hGlH.out, RW.lines_bad (by omega)])
            have hres' := hide (fun W8 (h : Below (B + 1) wo W8) => (h.block B (Nat.lt_succ_self B)).trans hb0.out)
            by_cases hlow : n < 1
            · go_upto_region 8 with (go_at_call 41; refine hI5.out.mono ?_; rintro e w5 ⟨rfl, hB5⟩; have hB5H := hide hB5; clear hB5)
              obtain ⟨a8, c8, w8, hrun, hO8, hB8⟩ := hfin.out w5 hB5H.out
              have hB8H := hide hB8
              have hres := hres'.out w8 hB8
              clear hO8 hB8
              go_wp2_with (first
                | (at_builtin; refine wpList_app_run rfl (.tmp 27) (.tmp 29) rfl rfl rfl hrun ?_)
                | (refine wpList_store_row rfl 39 (.tmp 2) (.tmp 41) rfl B #[.int .i64 0, .int .i64 0, .slice none 0 0] rfl rfl 39 _ hres hnoI rfl hnoO ?_))
              refine bodyPost_ret (rdec_results _ _ B #[.int .i64 0, .int .i64 0, .slice none 0 0] 190 rfl rfl rfl (setRow_heap _ _ _ _ _ _ (hres'.out w8 hB8H.out))) rfl ⟨by rw [hGb.out]; rfl, belowSetRow (hBH.out ▸ hBw.out.trans (hB8H.out.mono (Nat.le_succ B))) (by have := hBH.out; omega) _⟩
            · have hhigh : 1200 < n := by omega
              clear hgood
              go_upto_region 8 with (go_at_call 41; refine hI5.out.mono ?_; rintro e w5 ⟨rfl, hB5⟩; have hB5H := hide hB5; clear hB5)
              obtain ⟨a8, c8, w8, hrun, hO8, hB8⟩ := hfin.out w5 hB5H.out
              have hB8H := hide hB8
              have hres := hres'.out w8 hB8
              clear hO8 hB8
              go_wp2_with (first
                | (at_builtin; refine wpList_app_run rfl (.tmp 27) (.tmp 29) rfl rfl rfl hrun ?_)
                | (refine wpList_store_row rfl 39 (.tmp 2) (.tmp 41) rfl B #[.int .i64 0, .int .i64 0, .slice none 0 0] rfl rfl 39 _ hres hnoI rfl hnoO ?_))
              refine bodyPost_ret (rdec_results _ _ B #[.int .i64 0, .int .i64 0, .slice none 0 0] 190 rfl rfl rfl (setRow_heap _ _ _ _ _ _ (hres'.out w8 hB8H.out))) rfl ⟨by rw [hGb.out]; rfl, belowSetRow (hBH.out ▸ hBw.out.trans (hB8H.out.mono (Nat.le_succ B))) (by have := hBH.out; omega) _⟩
        · have hGo := hide (show RW.RdS G (acc ++ [n]) k (L.drop a2) by rw [← hdr.out]; exact hst.out.on (by rw [← hmH.out]; exact hmk) hdH.out (by rw [← hmH.out]; exact h3))
          obtain ⟨m8, hm8⟩ : ∃ m8, m8 = m + 1 := ⟨_, rfl⟩
          have hm8H := hide (show m8 = (acc ++ [n]).length by rw [hm8, hmH.out]; simp)
          have hm9H := hide hm8
          have hk8 : m8 ≤ k := by omega
          have hne8 : ¬ m8 = 3 := by omega
          have hfin := hide (fun (W : World) (hW : Below wo.heap.size wo W) => (show ∃ a8 c8 W8, (Builtin.append_ #[36, 36] 36 #[.slice av m cv, .slice (some ⟨W.heap.size, 0, none⟩) 1 1]).run Try.prog (W.alloc (.cells #[.int .i64 n] 3)) = .ok (.slice a8 m8 c8) W8 ∧ IntsO W8 (B + 1) (.slice a8 m8 c8) (acc ++ [n]) ∧ Below (B + 1) wo W8 from by
            obtain ⟨v8, w8, hrun, hO8, hB8⟩ := hI6.out W hW
            obtain ⟨a8, c8, e8⟩ := hO8.form
            rw [← hm8H.out] at e8
            subst e8
            exact ⟨a8, c8, w8, hrun, hO8, (hW.mono hsz.out).trans hB8⟩))
          clear hI6 h3 hm8
          go_upto_region 8 with (go_at_call 41; refine hI5.out.mono ?_; rintro e w5 ⟨rfl, hB5⟩; have hB5H := hide hB5; clear hB5)
          obtain ⟨a8, c8, w8, hrun, hO8, hB8⟩ := hfin.out w5 hB5H.out
          have hO8H := hide hO8
          have hB8H := hide hB8
          clear hO8 hB8
          go_wp2_with (at_builtin; refine wpList_app_run rfl (.tmp 27) (.tmp 29) rfl rfl rfl hrun ?_)
          go_roundw
          case rel => exact ⟨acc ++ [n], a2, k, by go_num, rfl, by rw [← hm8H.out]; exact hk8, hk3, hm8H.out, hO8H.out, hBw.out.trans (hB8H.out.mono (Nat.le_succ B)), (hB8H.out.block B (Nat.lt_succ_self B)).trans hb0.out, Nat.le_trans hsz.out hB8H.out.size, hal2.out, hGo.out⟩
          case measure => simp [lenOf]; have := hm9H.out; omega
    · obtain ⟨x, y, n, ls, hacc, hn1, hn2, hk, hln, hGf⟩ := hst.out.stop (by rw [← hmH.out]; exact hmk)
      have haccH := hide hacc
      have hlnH := hide hln
      have hGfH := hide hGf
      have hkH := hide hk
      clear hacc hln hGf hk
      by_cases hae : ¬ a = s.size
      · have hGb := hide (show G = .wire by
          rw [hGfH.out]
          unfold RW.fin
          rw [if_pos (fun e => hae (by
            have h1 := List.drop_eq_nil_iff.1 e
            have h2 := hal.out
            have h3 := hlenH.out
            omega))])
        have hres := hb0.out
        go_wp2_with (refine wpList_store_row rfl 39 (.tmp 2) (.tmp 49) rfl B #[.int .i64 0, .int .i64 0, .slice none 0 0] rfl rfl 39 _ hres hnoI rfl hnoO ?_)
        refine bodyPost_ret (rdec_results _ _ B #[.int .i64 0, .int .i64 0, .slice none 0 0] 10 rfl rfl rfl (setRow_heap _ _ _ _ _ _ hb0.out)) rfl ⟨by rw [hGb.out]; rfl, belowSetRow (hBH.out ▸ hBw.out) (by have := hBH.out; omega) _⟩
      · have hae : a = s.size := Classical.not_not.1 hae
        have hGv := hide (show G = if RW.valB (x, y, ls) = true then .st (x, y, ls) else .bad by
          rw [hGfH.out]
          unfold RW.fin
          rw [List.drop_eq_nil_of_le (by rw [hlenH.out, hae]; exact Nat.le_refl _), if_neg (by simp)])
        subst hae
        have hm6 : 6 ≤ m := by have := hmH.out; have := hkH.out; omega
        obtain ⟨a', c', hae', _, hav⟩ := hI.out.row
        cases hae'
        obtain ⟨b, o, rfl, hbb, hcc⟩ := hav.resolve_left (by intro e; have := haccH.out; rw [e] at this; cases this)
        have hcl := hide (fun (W : World) (hW : Below wo.heap.size wo W) (i : Nat) (z : Int) (hz : acc[i]? = some z) => (World.cell?_of_block (a := ⟨b, o + i, none⟩) (hW.block b hbb)).trans (ints_cell hcc hz))
        have hbbH := hide hbb
        clear hav hbb hcc
        obtain ⟨m, hm⟩ : ∃ m, m = acc.length := ⟨_, rfl⟩
        rw [← hm] at hm6
        have hm1 := hide (show 0 < m by omega)
        have hm2 := hide (show 1 < m by omega)
        have hmA := hide hm
        have hacc0 := hide (show acc[0]? = some x by rw [haccH.out]; rfl)
        have hacc1 := hide (show acc[1]? = some y by rw [haccH.out]; rfl)
        have haccL := hide (fun (j : Nat) (q : RW.Ln) (hq : ls[j]? = some q) => (show acc[3 + 3 * j]? = some q.1 ∧ acc[3 + 3 * j + 1]? = some q.2.1 ∧ acc[3 + 3 * j + 2]? = some q.2.2 by
          rw [haccH.out, show 3 + 3 * j = 3 * j + 1 + 1 + 1 by omega, show 3 * j + 1 + 1 + 1 + 1 = (3 * j + 1) + 1 + 1 + 1 by omega, show 3 * j + 1 + 1 + 1 + 2 = (3 * j + 2) + 1 + 1 + 1 by omega]
          simp only [List.getElem?_cons_succ]
          exact RW.flat_get ls j q hq))
        have hmk3 := hide (show m = 3 + 3 * n by rw [hm, haccH.out]; simp [RW.flatZ_len, hlnH.out]; omega)
        rw [← hm]
        go_upto_region 16 with fail
        clear hm hm6
        refine wp_region_k (fun _ W => Below wo.heap.size wo W) (fun _ => True) [7, 8] (.op 0 (.op 1 (.op 2 (.op 3 (.op 4 (.op 5 (.op 6 (.op 7 (.op 8 .nil))))))))) (by kernel_rfl) (by kernel_rfl) (by rfl) (by kernel_rfl) (Below.refl wo.heap.size wo).drew trivial ?_
        refine k_val (.slice (some ⟨b, o, none⟩) m cv) (by apply opN; repeat' (first | apply OpAt.z | apply OpAt.s)) (by rfl) (by rfl) (fun _ W hS => op_mv rfl rfl) ?_
        simp only [Act.put, List.setIfInBounds_toArray, List.set_cons_zero, List.set_cons_succ]
        refine k_val (.pointer (some ⟨b, o, none⟩)) (by apply opN; repeat' (first | apply OpAt.z | apply OpAt.s)) (by rfl) (by rfl) (fun _ W hS => op_ix rfl rfl rfl (ix_int0 hm1.out W)) ?_
        simp only [Act.put, List.setIfInBounds_toArray, List.set_cons_zero, List.set_cons_succ]
        refine k_val (.int .i64 x) (by apply opN; repeat' (first | apply OpAt.z | apply OpAt.s)) (by rfl) (by rfl) (fun _ W hS => op_ld rfl rfl (int_ld (hcl.out W hS 0 _ hacc0.out))) ?_
        simp only [Act.put, List.setIfInBounds_toArray, List.set_cons_zero, List.set_cons_succ]
        refine k_val (.slice (some ⟨b, o, none⟩) m cv) (by apply opN; repeat' (first | apply OpAt.z | apply OpAt.s)) (by rfl) (by rfl) (fun _ W hS => op_mv rfl rfl) ?_
        simp only [Act.put, List.setIfInBounds_toArray, List.set_cons_zero, List.set_cons_succ]
        refine k_val (.pointer (some ⟨b, o + 1, none⟩)) (by apply opN; repeat' (first | apply OpAt.z | apply OpAt.s)) (by rfl) (by rfl) (fun _ W hS => op_ix rfl rfl rfl (ix_int1 hm2.out W)) ?_
        simp only [Act.put, List.setIfInBounds_toArray, List.set_cons_zero, List.set_cons_succ]
        refine k_val (.int .i64 y) (by apply opN; repeat' (first | apply OpAt.z | apply OpAt.s)) (by rfl) (by rfl) (fun _ W hS => op_ld rfl rfl (int_ld (hcl.out W hS 1 _ hacc1.out))) ?_
        simp only [Act.put, List.setIfInBounds_toArray, List.set_cons_zero, List.set_cons_succ]
        refine k_val (.agg #[.int .i64 x, .int .i64 y, .slice none 0 0]) (by apply opN; repeat' (first | apply OpAt.z | apply OpAt.s)) (by rfl) (by rfl) (fun _ W hS => op_bst rfl rfl rfl) ?_
        simp only [Act.put, List.setIfInBounds_toArray, List.set_cons_zero, List.set_cons_succ]
        refine k_step (fun K' u => ∃ g, u = .pointer (some ⟨g, 0, none⟩) ∧ K' = fun W => wo.heap.size ≤ g ∧ W.heap[g]? = some (.cells #[.int .i64 0, .int .i64 0, .slice none 0 0] 39 (0, 0))) (by apply opN; repeat' (first | apply OpAt.z | apply OpAt.s)) (by rfl) (by rfl) (by rfl) (fun W hC hK => ?_) ?_
        · exact xup_val (op_al rfl (al_st W)) ⟨alloc_bel hC (Nat.le_refl _) _, _, ⟨hC.size, alloc_at1 W _⟩, W.heap.size, rfl, rfl⟩
        rintro _ _ ⟨g, rfl, rfl⟩
        simp only [Act.put, List.setIfInBounds_toArray, List.set_cons_zero, List.set_cons_succ]
        refine k_step (fun K' u => K' = fun W => W.heap[g]? = some (.cells #[.int .i64 x, .int .i64 y, .slice none 0 0] 39 (0, 0)) ∧ wo.heap.size ≤ g) (by apply opN; repeat' (first | apply OpAt.z | apply OpAt.s)) (by rfl) (by rfl) (by rfl) (fun W hC hK => ?_) ?_
        · obtain ⟨W', r1, r2, r3, r4⟩ := stm_st hK.2 x y (.slice none 0 0) rfl
          exact xup_skip (op_st rfl rfl rfl r1) ⟨r3 _ _ hC (Nat.le_refl _) hK.1, _, ⟨r2, hK.1⟩, rfl⟩
        rintro _ _ rfl
        simp only [Act.put]
        refine k_nil ?_
        intro w7 hC hK
        obtain ⟨hg7, hgl⟩ := hK
        have hB7 := hide hC
        have hg7H := hide hg7
        obtain ⟨g1, hg1⟩ : ∃ g1, g1 = w7.heap.size := ⟨_, rfl⟩
        have hgg := hide (show g < g1 ∧ wo.heap.size ≤ g by rw [hg1]; exact ⟨(Array.getElem?_eq_some_iff.1 hg7).1, hgl⟩)
        have hg1H := hide hg1
        have hcl7 := hide (fun (i : Nat) (z : Int) (hz : acc[i]? = some z) => hcl.out w7 hC i z hz)
        have hb7 := hide ((hC.block B (Nat.lt_of_succ_le hsz.out)).trans hb0.out)
        have hBw7 := hide (hBw.out.trans (hC.mono (Nat.le_of_succ_le hsz.out)))
        clear hC hg7 hgl hg1 hcl
        go_wp2
        go_loopw [11] (fun i wr => ∃ (j q : Nat) (v : Value), i = .int .i64 q ∧ q ≤ k ∧ Hid (q = 3 + 3 * j ∧ wr.heap[B]? = some (.cells #[.int .i64 0, .int .i64 0, .slice none 0 0] 39 (0, 0)) ∧ wr.heap[g]? = some (.cells #[.int .i64 x, .int .i64 y, v] 39 (0, 0)) ∧ LnsO wr g1 v (ls.take j) ∧ (∀ (i : Nat) (z : Int), acc[i]? = some z → wr.cell? ⟨b, o + i, none⟩ = some (.int .i64 z)) ∧ Below B w wr ∧ g1 ≤ wr.heap.size)) (fun i _ => k - (intOf i).toNat)
        case atStart => exact ⟨0, 3, _, rfl, by have := hkH.out; omega, rfl, hb7.out, hg7H.out, LnsO.nil _ _, hcl7.out, hBw7.out, Nat.le_of_eq hg1H.out⟩
        case round =>
          obtain ⟨j, q, v, rfl, hqk, hQ⟩ := hrel
          obtain ⟨wi, hwi⟩ : ∃ wo, wo = wr := ⟨_, rfl⟩
          subst hwi
          have hqj := hide hQ.out.1
          have hbi := hide hQ.out.2.1
          have hgi := hide hQ.out.2.2.1
          have hLi := hide hQ.out.2.2.2.1
          have hci := hide hQ.out.2.2.2.2.1
          have hBi := hide hQ.out.2.2.2.2.2.1
          have hsi := hide hQ.out.2.2.2.2.2.2
          clear hQ hcl7 hb7 hBw7
          by_cases hqk2 : q < k
          · obtain ⟨⟨x0, x1, x2⟩, hx⟩ : ∃ p, ls[j]? = some p := ⟨_, List.getElem?_eq_getElem (by have := hlnH.out; have := hkH.out; have := hqj.out; omega)⟩
            obtain ⟨l0, l1, l2⟩ := haccL.out j _ hx
            rw [← hqj.out] at l0 l1 l2
            have hqm := hide (show q + 2 < m by have := hmk3.out; have := hkH.out; have := hqj.out; omega)
            have htk := hide (show ls.take (j + 1) = ls.take j ++ [(x0, x1, x2)] by rw [List.take_add_one, hx]; rfl)
            have hL0 := hide (fun (W : World) (hW : Below g1 wi W) => (show W.cell? ⟨b, o + q, none⟩ = some (.int .i64 x0) from (World.cell?_of_block (a := ⟨b, o + q, none⟩) (hW.block b (Nat.lt_trans hbbH.out (Nat.lt_of_le_of_lt hgg.out.2 hgg.out.1)))).trans (hci.out _ _ l0)))
            have hL1 := hide (fun (W : World) (hW : Below g1 wi W) => (show W.cell? ⟨b, o + (q + 1), none⟩ = some (.int .i64 x1) from (World.cell?_of_block (a := ⟨b, o + (q + 1), none⟩) (hW.block b (Nat.lt_trans hbbH.out (Nat.lt_of_le_of_lt hgg.out.2 hgg.out.1)))).trans (hci.out _ _ l1)))
            have hL2 := hide (fun (W : World) (hW : Below g1 wi W) => (show W.cell? ⟨b, o + (q + 2), none⟩ = some (.int .i64 x2) from (World.cell?_of_block (a := ⟨b, o + (q + 2), none⟩) (hW.block b (Nat.lt_trans hbbH.out (Nat.lt_of_le_of_lt hgg.out.2 hgg.out.1)))).trans (hci.out _ _ l2)))
            have hgw := hide (fun (W : World) (hW : Below g1 wi W) => (hW.block g hgg.out.1).trans hgi.out)
            have hq6 := hide (show q ≤ 1000000 by omega)
            have hqm0 := hide (show q < m by have := hqm.out; omega)
            have hqm1 := hide (show q + 1 < m by have := hqm.out; omega)
            obtain ⟨av0, cv0, hv0⟩ := lnl_block hLi.out
            obtain ⟨q0, hq0⟩ : ∃ q', q' = (ls.take j).length := ⟨_, rfl⟩
            have hq0H := hide (show q0 ≤ 1200 by rw [hq0, List.length_take]; have := hlnH.out; omega)
            have hq00 := hide hq0
            rw [← hq0] at hv0
            subst hv0
            clear hx l0 l1 l2 hq0
            go_upto_region 20 with fail
            refine wp_region_k (fun h W => 20 ∉ h → Below g1 wi W) (fun W => Below wi.heap.size wi W) [17, 18, 20] (.op 0 (.op 1 (.op 2 (.op 3 (.op 4 (.op 5 (.op 6 (.op 7 (.op 8 (.op 9 (.op 10 (.op 11 (.op 12 (.op 13 (.op 14 (.op 15 (.op 16 (.op 17 (.op 18 (.op 19 (.op 20 .nil))))))))))))))))))))) (by kernel_rfl) (by kernel_rfl) (by rfl) (by kernel_rfl) (fun _ => (Below.refl g1 wi).drew) (Below.refl wi.heap.size wi).drew ?_
            refine k_val (.pointer (some ⟨g, 2, none⟩)) (by apply opN; repeat' (first | apply OpAt.z | apply OpAt.s)) (by rfl) (by rfl) (fun _ W hS => op_fa rfl rfl (fa_st2 W)) ?_
            simp only [Act.put, List.setIfInBounds_toArray, List.set_cons_zero, List.set_cons_succ]
            refine k_bef 20 (.slice av0 q0 cv0) (by apply opN; repeat' (first | apply OpAt.z | apply OpAt.s)) (by rfl) (by rfl) (by decide +kernel) (by rfl) (fun _ W hg hS => op_ld rfl rfl (lsl_ld (cellAt (hgw.out W (hS hg)) 2))) ?_
            simp only [Act.put, List.setIfInBounds_toArray, List.set_cons_zero, List.set_cons_succ]
            refine k_val (.slice (some ⟨b, o, none⟩) m cv) (by apply opN; repeat' (first | apply OpAt.z | apply OpAt.s)) (by rfl) (by rfl) (fun _ W hS => op_mv rfl rfl) ?_
            simp only [Act.put, List.setIfInBounds_toArray, List.set_cons_zero, List.set_cons_succ]
            refine k_val (.int .i64 (q : Int)) (by apply opN; repeat' (first | apply OpAt.z | apply OpAt.s)) (by rfl) (by rfl) (fun _ W hS => op_mv rfl rfl) ?_
            simp only [Act.put, List.setIfInBounds_toArray, List.set_cons_zero, List.set_cons_succ]
            refine k_val (.pointer (some ⟨b, o + q, none⟩)) (by apply opN; repeat' (first | apply OpAt.z | apply OpAt.s)) (by rfl) (by rfl) (fun _ W hS => op_ix rfl rfl rfl (ix_int hqm0.out W)) ?_
            simp only [Act.put, List.setIfInBounds_toArray, List.set_cons_zero, List.set_cons_succ]
            refine k_bef 20 (.int .i64 x0) (by apply opN; repeat' (first | apply OpAt.z | apply OpAt.s)) (by rfl) (by rfl) (by decide +kernel) (by rfl) (fun _ W hg hS => op_ld rfl rfl (int_ld (hL0.out W (hS hg)))) ?_
            simp only [Act.put, List.setIfInBounds_toArray, List.set_cons_zero, List.set_cons_succ]
            refine k_val (.slice (some ⟨b, o, none⟩) m cv) (by apply opN; repeat' (first | apply OpAt.z | apply OpAt.s)) (by rfl) (by rfl) (fun _ W hS => op_mv rfl rfl) ?_
            simp only [Act.put, List.setIfInBounds_toArray, List.set_cons_zero, List.set_cons_succ]
            refine k_val (.int .i64 (q : Int)) (by apply opN; repeat' (first | apply OpAt.z | apply OpAt.s)) (by rfl) (by rfl) (fun _ W hS => op_mv rfl rfl) ?_
            simp only [Act.put, List.setIfInBounds_toArray, List.set_cons_zero, List.set_cons_succ]
            refine k_val (.int .i64 ((q + 1 : Nat) : Int)) (by apply opN; repeat' (first | apply OpAt.z | apply OpAt.s)) (by rfl) (by rfl) (fun _ W hS => op_add1 rfl rfl rfl hq6.out) ?_
            simp only [Act.put, List.setIfInBounds_toArray, List.set_cons_zero, List.set_cons_succ]
            refine k_val (.pointer (some ⟨b, o + (q + 1), none⟩)) (by apply opN; repeat' (first | apply OpAt.z | apply OpAt.s)) (by rfl) (by rfl) (fun _ W hS => op_ix rfl rfl rfl (ix_int hqm1.out W)) ?_
            simp only [Act.put, List.setIfInBounds_toArray, List.set_cons_zero, List.set_cons_succ]
            refine k_bef 20 (.int .i64 x1) (by apply opN; repeat' (first | apply OpAt.z | apply OpAt.s)) (by rfl) (by rfl) (by decide +kernel) (by rfl) (fun _ W hg hS => op_ld rfl rfl (int_ld (hL1.out W (hS hg)))) ?_
            simp only [Act.put, List.setIfInBounds_toArray, List.set_cons_zero, List.set_cons_succ]
            refine k_val (.slice (some ⟨b, o, none⟩) m cv) (by apply opN; repeat' (first | apply OpAt.z | apply OpAt.s)) (by rfl) (by rfl) (fun _ W hS => op_mv rfl rfl) ?_
            simp only [Act.put, List.setIfInBounds_toArray, List.set_cons_zero, List.set_cons_succ]
            refine k_val (.int .i64 (q : Int)) (by apply opN; repeat' (first | apply OpAt.z | apply OpAt.s)) (by rfl) (by rfl) (fun _ W hS => op_mv rfl rfl) ?_
            simp only [Act.put, List.setIfInBounds_toArray, List.set_cons_zero, List.set_cons_succ]
            refine k_val (.int .i64 ((q + 2 : Nat) : Int)) (by apply opN; repeat' (first | apply OpAt.z | apply OpAt.s)) (by rfl) (by rfl) (fun _ W hS => op_add2 rfl rfl rfl hq6.out) ?_
            simp only [Act.put, List.setIfInBounds_toArray, List.set_cons_zero, List.set_cons_succ]
            refine k_val (.pointer (some ⟨b, o + (q + 2), none⟩)) (by apply opN; repeat' (first | apply OpAt.z | apply OpAt.s)) (by rfl) (by rfl) (fun _ W hS => op_ix rfl rfl rfl (ix_int hqm.out W)) ?_
            simp only [Act.put, List.setIfInBounds_toArray, List.set_cons_zero, List.set_cons_succ]
            refine k_bef 20 (.int .i64 x2) (by apply opN; repeat' (first | apply OpAt.z | apply OpAt.s)) (by rfl) (by rfl) (by decide +kernel) (by rfl) (fun _ W hg hS => op_ld rfl rfl (int_ld (hL2.out W (hS hg)))) ?_
            simp only [Act.put, List.setIfInBounds_toArray, List.set_cons_zero, List.set_cons_succ]
            refine k_val (.agg #[.int .i64 x0, .int .i64 x1, .int .i64 x2]) (by apply opN; repeat' (first | apply OpAt.z | apply OpAt.s)) (by rfl) (by rfl) (fun _ W hS => op_bl rfl rfl rfl rfl) ?_
            simp only [Act.put, List.setIfInBounds_toArray, List.set_cons_zero, List.set_cons_succ]
            refine k_step (fun K' u => ∃ g', u = .slice (some ⟨g', 0, none⟩) 1 1 ∧ K' = fun W => ∃ W0, Below wi.heap.size wi W0 ∧ W = W0.alloc (.cells (RW.lnl (x0, x1, x2)).toArray 61) ∧ g' = W0.heap.size) (by apply opN; repeat' (first | apply OpAt.z | apply OpAt.s)) (by rfl) (by rfl) (by rfl) (fun W hC hK => ?_) ?_
            · exact xup_val (op_bsl (q := (x0, x1, x2)) rfl rfl) ⟨fun _ => (alloc_bel hK (Nat.le_refl _) _).mono hsi.out, _, ⟨W, hK, rfl, rfl⟩, _, rfl, rfl⟩
            rintro _ _ ⟨g', rfl, rfl⟩
            simp only [Act.put, List.setIfInBounds_toArray, List.set_cons_zero, List.set_cons_succ]
            refine k_step (fun K' u => ∃ a18 n18 c18, u = .slice a18 n18 c18 ∧ K' = fun W => Below g1 wi W ∧ LnsO W g1 (.slice a18 n18 c18) (ls.take j ++ [(x0, x1, x2)])) (by apply opN; repeat' (first | apply OpAt.z | apply OpAt.s)) (by rfl) (by rfl) (by rfl) (fun W hC hK => ?_) ?_
            · obtain ⟨W0, hW0, rfl, rfl⟩ := hK
              obtain ⟨v2, W2, hrun, ho2, hb2⟩ := (hLi.out.next hW0).appNew (x0, x1, x2) (by rw [← hq00.out]; have := hq0H.out; omega) (Nat.le_trans hsi.out hW0.size)
              have hb3 : Below g1 wi W2 := (hW0.mono hsi.out).trans hb2
              obtain ⟨a18, c18, e18⟩ := lnl_block ho2
              subst e18
              exact xup_val (op_app rfl rfl rfl hrun) ⟨fun _ => hb3, _, ⟨hb3, ho2⟩, _, _, _, rfl, rfl⟩
            rintro _ _ ⟨a18, n18, c18, rfl, rfl⟩
            simp only [Act.put, List.setIfInBounds_toArray, List.set_cons_zero, List.set_cons_succ]
            refine k_val (.pointer (some ⟨g, 2, none⟩)) (by apply opN; repeat' (first | apply OpAt.z | apply OpAt.s)) (by rfl) (by rfl) (fun _ W hS => op_fa rfl rfl (fa_st2 W)) ?_
            simp only [Act.put, List.setIfInBounds_toArray, List.set_cons_zero, List.set_cons_succ]
            refine k_step (fun K' u => K' = fun W' => ∃ W, Below g1 wi W ∧ LnsO W g1 (.slice a18 n18 c18) (ls.take j ++ [(x0, x1, x2)]) ∧ W' = W.setCell ⟨g, 2, none⟩ (.slice a18 n18 c18)) (by apply opN; repeat' (first | apply OpAt.z | apply OpAt.s)) (by rfl) (by rfl) (by rfl) (fun W hC hK => ?_) ?_
            · have hgW := hgw.out W hK.1
              exact xup_skip (op_sts rfl rfl rfl (cellAt hgW 2) (by simp [World.frozen?, hgW])) ⟨fun hh => absurd (by simp) hh, _, ⟨W, hK.1, hK.2, rfl⟩, rfl⟩
            rintro _ _ rfl
            simp only [Act.put]
            refine k_nil ?_
            intro W _ hK
            obtain ⟨v18, hv18⟩ : ∃ v, v = Value.slice a18 n18 c18 := ⟨_, rfl⟩
            rw [← hv18] at hK
            obtain ⟨W8, hB8, hL8, hw8⟩ := hK
            have hkeep : ∀ k, k ≠ g → W.heap[k]? = W8.heap[k]? := fun k hk => by rw [hw8]; exact Below.heap_setCell _ _ _ _ hk
            have hg8 := hide ((hB8.block g hgg.out.1).trans hgi.out)
            have hset := hide (show W.heap[g]? = some (.cells #[.int .i64 x, .int .i64 y, v18] 39 (0, 0)) by rw [hw8]; exact (heap_setCell_same _ _ _ _ _ _ hg8.out).trans rfl)
            have hsz8 := hide (show W.heap.size = W8.heap.size by rw [hw8]; simp [World.setCell])
            have hrel2 := hide (show W.heap[B]? = some (.cells #[.int .i64 0, .int .i64 0, .slice none 0 0] 39 (0, 0)) ∧ LnsO W g1 v18 (ls.take (j + 1)) ∧ (∀ (i : Nat) (z : Int), acc[i]? = some z → W.cell? ⟨b, o + i, none⟩ = some (.int .i64 z)) ∧ Below B w W ∧ g1 ≤ W.heap.size by
              have h1 := hgg.out
              have h2 := hsi.out
              have h3 := hbbH.out
              have h4 := Nat.lt_of_succ_le hsz.out
              refine ⟨(hkeep B (by omega)).trans ((hB8.block B (by omega)).trans hbi.out), ?_, fun i z hz => ?_, ?_, ?_⟩
              · rw [htk.out]
                exact own_keep hL8 fun k hk => hkeep k (by have := (own_block hL8 hk).1; omega)
              · exact (World.cell?_of_block (a := ⟨b, o + i, none⟩) ((hkeep b (by omega)).trans (hB8.block b (by omega)))).trans (hci.out i z hz)
              · rw [hw8]
                exact (hBi.out.trans (hB8.mono (by omega))).setCell (p := ⟨g, 2, none⟩) (by show B ≤ g; omega) _
              · rw [hsz8.out]
                exact Nat.le_trans h2 hB8.size)
            clear hB8 hL8 hw8 hkeep hg8 hsz8
            go_wp2
            go_roundw
            case rel => exact ⟨j + 1, q + 3, v18, by go_num, by have := hkH.out; have := hqj.out; omega, by have := hqj.out; omega, hrel2.out.1, hset.out, hrel2.out.2.1, hrel2.out.2.2.1, hrel2.out.2.2.2.1, hrel2.out.2.2.2.2⟩
            case measure => simp [intOf]; omega
          · have hjn : n = j := by have := hkH.out; have := hqj.out; omega
            have hLf := hide (show LnsO wi g1 v ls by
              have h1 := hLi.out
              rwa [List.take_of_length_le (by rw [hlnH.out, hjn]; exact Nat.le_refl _)] at h1)
            obtain ⟨av0, cv0, hv0⟩ := lnl_block hLf.out
            obtain ⟨q0, hq0⟩ : ∃ q', q' = ls.length := ⟨_, rfl⟩
            rw [← hq0] at hv0
            subst hv0
            obtain ⟨vb, hvb⟩ : ∃ b, b = RW.valB (x, y, ls) := ⟨_, rfl⟩
            have hvbH := hide hvb
            have hV := hide (rvalid_any x y (.slice av0 q0 cv0) ls (by have := hlnH.out; omega) wi hLf.out.row)
            rw [← hvb] at hV
            have hi := st_arr x y av0 q0 cv0
            have hone := st_arr1 x y av0 q0 cv0
            have g4' := hgi.out
            have hlt1 := hide (show B < wi.heap.size ∧ g < wi.heap.size by have h1 := hgg.out; have h2 := hsi.out; have h4 := Nat.lt_of_succ_le hsz.out; omega)
            have hDn := hide (fun W (hW : Below wi.heap.size wi W) => (show W.heap[B]? = some (.cells #[.int .i64 0, .int .i64 0, .slice none 0 0] 39 (0, 0)) ∧ W.heap[g]? = some (.cells #[.int .i64 x, .int .i64 y, .slice av0 q0 cv0] 39 (0, 0)) ∧ Below B w W ∧ LnsO W g1 (.slice av0 q0 cv0) ls from ⟨(hW.block B hlt1.out.1).trans hbi.out, (hW.block g hlt1.out.2).trans hgi.out, hBi.out.trans (hW.mono (Nat.le_of_lt hlt1.out.1)), hLf.out.next hW⟩))
            have hBg := hide (show B < g ∧ B ≤ g1 ∧ B < g1 by have h1 := hgg.out; have h4 := Nat.lt_of_succ_le hsz.out; omega)
            clear hq0 hvb hjn
            cases vb
            · have hGb := hide (show G = .bad by rw [hGv.out, ← hvbH.out, if_neg (by decide)])
              go_wp2_with (first
                | (refine wpList_load_row rfl 39 (.tmp 10) rfl g rfl 39 _ (0, 0) _ g4' Try.underlying39 rfl hi ?_)
                | (go_at_call 38; refine hV.out.mono ?_; rintro e w9 ⟨rfl, hB9⟩; have hB9H := hide hB9; have hres := (hDn.out w9 hB9).1; clear hB9)
                | (refine wpList_store_row rfl 39 (.tmp 2) (.tmp 86) rfl B #[.int .i64 0, .int .i64 0, .slice none 0 0] rfl rfl 39 _ hres hnoI rfl hnoO ?_))
              refine bodyPost_ret (rdec_results _ _ B #[.int .i64 0, .int .i64 0, .slice none 0 0] 190 rfl rfl rfl (setRow_heap _ _ _ _ _ _ (hDn.out w9 hB9H.out).1)) rfl ⟨by rw [hGb.out]; rfl, belowSetRow (hBH.out ▸ (hDn.out w9 hB9H.out).2.2.1) (by have := hBH.out; omega) _⟩
            · have hGb := hide (show G = .st (x, y, ls) by rw [hGv.out, ← hvbH.out, if_pos rfl])
              go_wp2_with (first
                | (refine wpList_load_row rfl 39 (.tmp 10) rfl g rfl 39 _ (0, 0) _ g4' Try.underlying39 rfl hi ?_)
                | (go_at_call 38; refine hV.out.mono ?_; rintro e w9 ⟨rfl, hB9⟩; have hB9H := hide hB9; have hres := (hDn.out w9 hB9).1; have g5' := (hDn.out w9 hB9).2.1; clear hB9)
                | (refine wpList_load_row rfl 39 (.tmp 10) rfl g rfl 39 _ (0, 0) _ g5' Try.underlying39 rfl hi ?_)
                | (refine wpList_store_row rfl 39 (.tmp 2) (.tmp 87) rfl B #[.int .i64 x, .int .i64 y, .slice av0 q0 cv0] rfl rfl 39 _ hres hi rfl hone ?_))
              refine bodyPost_ret (rdec_results _ _ B #[.int .i64 x, .int .i64 y, .slice av0 q0 cv0] 0 rfl rfl rfl (setRow_heap _ _ _ _ _ _ (hDn.out w9 hB9H.out).1)) rfl ⟨?_, belowSetRow (hBH.out ▸ (hDn.out w9 hB9H.out).2.2.1) (by have := hBH.out; omega) _⟩
              rw [hGb.out]
              exact ⟨_, rfl, own_base (own_setRow (hDn.out w9 hB9H.out).2.2.2 _ hBg.out.2.2 _) hBg.out.2.1⟩
end Go.Proofs.Ytillplhadimgmaa

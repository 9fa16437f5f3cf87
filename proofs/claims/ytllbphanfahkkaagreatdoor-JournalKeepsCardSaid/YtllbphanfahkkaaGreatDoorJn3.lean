/-
  Package journal: check, tape.load: what they do: a content that is damaged ends in a panic.
-/
import Derived.Test.YtllbphanfahkkaaGreatDoorJn2
import Derived.Test.YtllbphanfahkkaaGreatDoorErr
import Derived.Recover
import Derived.WalkLawsBesides
namespace Go.Proofs.YtllbphanfahkkaaGreatDoor
open Go.RowKit RG
namespace RW
def jeW (a : Addr) : Value := .iface 282 (.pointer (some a))
theorem map_some {r : ByteArray} {c : Nat} {X : Option (List ByteArray × Nat)} {qs : List ByteArray} {m : Nat} :
    (X.map fun p => (r :: p.1, 33 + c + p.2)).map (fun p => (qs ++ p.1, m + p.2)) = X.map fun p => ((qs ++ [r]) ++ p.1, (m + (33 + c)) + p.2) := by
  cases X with
  | none => rfl
  | some p => simp [Nat.add_assoc]
end RW
namespace RW
theorem bytes_eq {a b : ByteArray} (h : a.data.toList = b.data.toList) : a = b := by
  cases a
  cases b
  simp only at h
  rw [Array.toList_inj.1 h]
end RW
theorem hds_len (K : Nat → Int) : ∀ (qs : List ByteArray), (RW.hds (RW.sha K) RW.z32 qs).length = 32 := fun qs => by
  rcases List.eq_nil_or_concat qs with rfl | ⟨l, x, rfl⟩
  · rfl
  · rw [List.concat_eq_append, RW.hds_snoc]
    exact RW.sha_len _ _
/-- a tape that has turned twice -/
theorem TA.comp {W' W w : World} {B tb : Nat} {rv1 rv rv0 : Value} {hd hd' : ByteArray} {n n' : Nat} {rest : List Value} {T : TypeId} {rs rs' : List ByteArray} (h : TA W w B tb rv0 rv hd n rest T rs) (g : TA W' W B tb rv rv1 hd' n' rest T rs') : TA W' w B tb rv0 rv1 hd' n' rest T rs' := by
  refine ⟨g.b, g.own, ⟨g.ch.os.trans h.ch.os, g.ch.tape.trans h.ch.tape, g.ch.output.trans h.ch.output, Nat.le_trans h.ch.size g.ch.size, fun k hk hn => ?_⟩, ?_⟩
  · refine (g.ch.block k (Nat.lt_of_lt_of_le hk h.ch.size) ?_).trans (h.ch.block k hk hn)
    rintro (e | e)
    · exact hn (.inl e)
    · rcases h.ob with e2 | ⟨x, e2, e3⟩
      · exact hn (.inr (e2 ▸ e))
      · rw [e] at e2
        cases e2
        omega
  · rcases g.ob with e | ⟨x, e, e3⟩
    · rw [e]
      exact h.ob
    · exact .inr ⟨x, e, Nat.le_trans h.ch.size e3⟩
section
variable {ev : Operand → Value} {o : Oper} {x y z : Operand} {w : World}
theorem op_x1P {Pn : List PanicEntry → World → Prop} {D : Value → World → Prop} {k : Nat} {ts : Array TypeId} {n : Value} (ho : o.op = .call ⟨.value (.func k), #[x], ts⟩) (hf : ev (.func k) = .func (.func k) #[] #[]) (hx : ev x = n) (hk : ∀ args w, (callFunc k args).run Tryz.prog w = .ok (.enter k args) w)
    (h : Calls Tryz.prog k #[n] w fun e w'' => (∃ u, e = .returned u ∧ D u w'') ∨ ∃ c, e = .panicked c ∧ Pn c w'') : XUpP Tryz.prog Pn D ((execOp ev o).run Tryz.prog w) := by
  have h1 : (execOp ev o).run Tryz.prog w = .ok (.enter k #[n]) w := by
    unfold execOp
    rw [ho]
    go_simp
  rw [h1]
  exact h
theorem op_addj {m n r : Int} (ho : o.op = .binOp .add 3 x y 3) (hx : ev x = .int .i64 m) (hy : ev y = .int .i64 n) (h : m + n = r) (hb : -9223372036854775808 ≤ r ∧ r ≤ 9223372036854775807) : (execOp ev o).run Tryz.prog w = .ok (.value (.int .i64 r)) w := by
  unfold execOp
  rw [ho]
  simp only [hx, hy]
  go_simp
  rw [IntKind.wrap_i64]
  omega
theorem op_sls {s : ByteArray} {i j : Nat} (ho : o.op = .slice 9 x (some y) (some z) none) (hx : ev x = .string s) (hy : ev y = .int .i64 (i : Int)) (hz : ev z = .int .i64 (j : Int)) (hij : i ≤ j) (hj : j ≤ s.size) : (execOp ev o).run Tryz.prog w = .ok (.value (.string (s.extract i j))) w := by
  have h1 : (0 : Int) ≤ (i : Int) := by omega
  have h2 : (i : Int) ≤ (j : Int) := by omega
  have h3 : (j : Int) ≤ (s.size : Int) := by omega
  unfold execOp
  rw [ho]
  simp only [hx, hy, hz, Option.map_some, Option.map_none]
  go_simp
theorem op_eqss {a b : ByteArray} (ho : o.op = .binOp .eql 9 x y 9) (hx : ev x = .string a) (hy : ev y = .string b) (h : a = b) : (execOp ev o).run Tryz.prog w = .ok (.value (.bool true)) w := by
  subst h
  unfold execOp
  rw [ho]
  simp only [hx, hy]
  go_simp
theorem op_nss {a b : ByteArray} (ho : o.op = .binOp .eql 9 x y 9) (hx : ev x = .string a) (hy : ev y = .string b) (h : a ≠ b) : (execOp ev o).run Tryz.prog w = .ok (.value (.bool false)) w := by
  have h2 : (a.toList == b.toList) = false := by
    rw [beq_eq_false_iff_ne, ByteArray.toList_eq, ByteArray.toList_eq]
    exact fun e => h (RW.bytes_eq e)
  unfold execOp
  rw [ho]
  simp only [hx, hy]
  go_simp
end
theorem cf_tadd : ∀ args w, (callFunc 43 args).run Tryz.prog w = .ok (.enter 43 args) w := fun args w => by go_simp
theorem cf_check : ∀ args w, (callFunc 137 args).run Tryz.prog w = .ok (.enter 137 args) w := fun args w => by go_simp
theorem hide_decS {l t : List UInt8} {c : Nat} (h : RW.decS l = some (t, c)) : c ≤ l.length ∧ t.length ≤ l.length ∧ t.length ≤ 65536 := by
  obtain ⟨h1, h2⟩ := RW.decS_take l t c h
  have h3 := congrArg List.length h1
  have h4 := RW.putI_len (t.length : Int)
  rcases hI : RW.decI l with _ | ⟨n, k⟩
  · rw [RW.decS_none _ hI] at h; cases h
  · rw [RW.decS_some _ _ _ hI] at h
    split at h
    · cases h
    · have hkl := RW.decI_le _ _ _ hI
      cases h
      refine ⟨by omega, by rw [List.length_take, List.length_drop]; omega, h2⟩
theorem check_yes (w : World) : Calls Tryz.prog 137 #[.bool true] w fun e w' => e = .returned (.tuple #[]) ∧ w = w' := by
  go_enter Tryz.func137, Tryz.ntmps137
  go_wp2
  go_end0
  exact ⟨rfl, rfl⟩
theorem check_no (a : Addr) (w : World) (hg : w.cell? ⟨1, 0, none⟩ = some (RW.jeW a)) :
    Calls Tryz.prog 137 #[.bool false] w fun e w' => e = .panicked [{ v := RW.jeW a, recovered := false }] ∧ w = w' := by
  unfold RW.jeW at hg ⊢
  go_enter Tryz.func137, Tryz.ntmps137
  go_wp2
  exact ⟨rfl, rfl, rfl⟩
set_option maxRecDepth 10000 in
set_option maxHeartbeats 8000000 in
theorem load_any (tb B : Nat) (rest : List Value) (T : TypeId) (hT : T ≠ 9) (s : ByteArray) (hs : s.size ≤ 4194304) (a : Addr) (K : Nat → Int) (ks : Array Value) (hks : RW.WsOk ks K) (w : World) (hK : KLaid w ks) (hg : w.cell? ⟨1, 0, none⟩ = some (RW.jeW a)) (hB : B ≤ w.heap.size) (htb : B ≤ tb) (hgl : 1 < B) (hkl : 4 < B)
    (hb : w.heap[tb]? = some (.cells (tpc (.slice none 0 0) (RW.strOf RW.z32) 0 rest) T (0, 0))) :
    Calls Tryz.prog 95 #[.pointer (some ⟨tb, 0, none⟩), .string s] w fun e w' => Below B w w' ∧
      ((RW.ldL (RW.sha K) RW.z32 s.data.toList = none ∧ e = .panicked [{ v := RW.jeW a, recovered := false }]) ∨
      ∃ qs m rv, RW.ldL (RW.sha K) RW.z32 s.data.toList = some (qs, m) ∧ e = .returned (.tuple #[]) ∧ TA w' w B tb (.slice none 0 0) rv (RW.strOf (RW.hds (RW.sha K) RW.z32 qs)) m rest T qs) := by
  have hTH := hide hT
  have hBH := hide hB
  have htbH := hide htb
  have hKW := hide (fun W (hW : Below B w W) => (show KLaid W ks ∧ W.cell? ⟨1, 0, none⟩ = some (RW.jeW a) from by
    obtain ⟨t, fr, h⟩ := hK
    exact ⟨⟨t, fr, (hW.block _ hkl).trans h⟩, (World.cell?_of_block (a := ⟨1, 0, none⟩) (hW.block _ hgl)).trans hg⟩))
  have hT0 := hide (show TA w w B tb (.slice none 0 0) (.slice none 0 0) (RW.strOf RW.z32) 0 rest T [] from ⟨hb, ⟨rfl, .inl ⟨rfl, rfl⟩⟩, ChgS.refl _ _, .inl rfl⟩)
  obtain ⟨G, hG⟩ : ∃ G, G = RW.ldL (RW.sha K) RW.z32 s.data.toList := ⟨_, rfl⟩
  rw [← hG]
  have hGH := hide hG
  clear hT hB htb hK hg hb hG hgl hkl
  go_enter Tryz.func95, Tryz.ntmps95
  go_wp2
  go_loopw [4] (fun (_ : Value) wr => ∃ (qs : List ByteArray) (m : Nat) (rv : Value), m ≤ s.size ∧ wr.cell? ⟨tb, 2, none⟩ = some (.int .i64 (m : Int)) ∧ Hid (TA wr w B tb (.slice none 0 0) rv (RW.strOf (RW.hds (RW.sha K) RW.z32 qs)) m rest T qs ∧ G = (RW.ldL (RW.sha K) (RW.hds (RW.sha K) RW.z32 qs) (s.data.toList.drop m)).map (fun p => (qs ++ p.1, m + p.2)) ∧ qs.length ≤ m))
    (fun (_ : Value) wr => s.size - RW.natOf (wr.cell? ⟨tb, 2, none⟩))
  case atStart => exact ⟨[], 0, .slice none 0 0, Nat.zero_le _, cell_of hT0.out.b (tpc2 _ _ _ _), hT0.out, by rw [hGH.out]; simp [RW.hds], Nat.le_refl _⟩
  case round =>
    obtain ⟨qs, m, rv, hm, c2, hQ⟩ := hrel
    obtain ⟨wo, hwo⟩ : ∃ wo, wo = wr := ⟨_, rfl⟩
    subst hwo
    have hTo := hide hQ.out.1
    have hGo := hide hQ.out.2.1
    have hql := hide hQ.out.2.2
    clear hQ hT0
    have hBo := hide (show Below B w wo from hTo.out.ch.belowJ (by
      rintro k (rfl | h)
      · exact htbH.out
      · cases h) hBH.out)
    by_cases hms : m < s.size
    · have hdc := hide (RW.drop_cons s m hms)
      by_cases h0 : s[m].toNat = 0
      · have hG1 := hide (show G = some (qs, m) from by
          rw [hGo.out, hdc.out, show s[m] = 0 from UInt8.toNat_inj.1 (by rw [h0]; rfl), RW.ldL_zero]
          simp)
        go_wp2
        go_end0
        exact ⟨hBo.out, .inr ⟨qs, m, rv, hG1.out, rfl, hTo.out⟩⟩
      · have hne := hide (show s[m] ≠ 0 from fun e => h0 (by rw [e]; rfl))
        have hgw := (hKW.out wo hBo.out).2
        by_cases h1 : s[m].toNat = 1
        · have q1 : ((s[m].toNat : Int) == 1) = true := by simp; omega
          have e1 := hide (show s[m] = 1 from UInt8.toNat_inj.1 (by rw [h1]; rfl))
          have hS := str_walk s (m + 1) wo (by omega) (by omega)
          rcases hD : RW.decS (s.data.toList.drop (m + 1)) with _ | ⟨r, c⟩
          · rw [hD] at hS
            have hSH := hide hS
            have hG1 := hide (show G = none by rw [hGo.out, hdc.out, e1.out, RW.ldL_none _ _ _ hD]; rfl)
            clear hS hD
            go_wp2_with (first
              | (go_at_call 82; refine hSH.out.mono ?_; rintro e w' ⟨rfl, rfl⟩; unfold strRes)
              | (go_at_call 137; first | (refine (check_yes _).mono ?_; rintro e w' ⟨rfl, rfl⟩) | (refine (check_no a _ hgw).mono ?_; rintro e w' ⟨rfl, rfl⟩)))
            exact ⟨rfl, hBo.out, .inl ⟨hG1.out, rfl⟩⟩
          · rw [hD] at hS
            have hSH := hide hS
            obtain ⟨hcl, htl, hr16⟩ := hide_decS hD
            have hll : (s.data.toList.drop (m + 1)).length = s.size - (m + 1) := by rw [List.length_drop, size_list]
            rw [hll] at hcl
            have hDH := hide hD
            clear hS hD hll
            by_cases hf : m + 1 + c + 32 ≤ s.size
            · obtain ⟨R, hR⟩ : ∃ R : ByteArray, R = ⟨r.toArray⟩ := ⟨_, rfl⟩
              have hRl : R.data.toList = r := by rw [hR]
              have hR16 := hide (show R.size ≤ 65536 by rw [← size_list, hRl]; exact hr16)
              have hhd := hide (show (RW.strOf (RW.hds (RW.sha K) RW.z32 qs)).size = 32 by rw [RW.strOf_size]; exact hds_len K qs)
              obtain ⟨N, hN'⟩ : ∃ N : ByteArray, N = ⟨(RW.chn (RW.sha K) (RW.hds (RW.sha K) RW.z32 qs) R).toArray⟩ := ⟨_, rfl⟩
              have hN := hide hN'
              obtain ⟨O, hO'⟩ : ∃ O : ByteArray, O = ⟨(RW.sto (RW.sha K) (RW.hds (RW.sha K) RW.z32 qs) R).toArray⟩ := ⟨_, rfl⟩
              have hO := hide hO'
              obtain ⟨g1, _⟩ := RW.decS_take _ _ _ hDH.out
              have hpl : (RW.putS r).length = c := by
                rw [← g1, List.length_take, List.length_drop, size_list]
                omega
              have hlen := hide (show (RW.sto (RW.sha K) (RW.hds (RW.sha K) RW.z32 qs) R).length = 33 + c by rw [RW.sto_len _ (RW.sha_len K), hRl, hpl])
              obtain ⟨X, hX'⟩ : ∃ X : ByteArray, X = s.extract m (m + 1 + c + 32) := ⟨_, rfl⟩
              have hX := hide hX'
              obtain ⟨Y, hY⟩ : ∃ Y, Y = ((s.data.toList.drop (m + 1)).drop c).take 32 := ⟨_, rfl⟩
              have hXl : X.data.toList = 1 :: (RW.putS r ++ Y) := by
                rw [hX', RW.extract_eq s m (m + 1 + c + 32) (by omega), hdc.out, e1.out, show m + 1 + c + 32 - m = (c + 32) + 1 by omega, List.take_succ_cons, List.take_add, g1, hY]
              have hOl : O.data.toList = 1 :: (RW.putS r ++ RW.chn (RW.sha K) (RW.hds (RW.sha K) RW.z32 qs) R) := by
                rw [hO']
                show RW.sto _ _ _ = _
                unfold RW.sto
                rw [hRl]
              have hHd := hide (show RW.strOf (RW.hds (RW.sha K) RW.z32 (qs ++ [R])) = N by rw [RW.hds_snoc, hN']; rfl)
              clear hN' hO' hX' g1 hpl hr16
              by_cases heq : Y = RW.chn (RW.sha K) (RW.hds (RW.sha K) RW.z32 qs) R
              · have hOX := hide (show O = X from RW.bytes_eq (by rw [hOl, hXl, heq]))
                have hGn := hide (show G = (RW.ldL (RW.sha K) (RW.hds (RW.sha K) RW.z32 (qs ++ [R])) (s.data.toList.drop (m + (33 + c)))).map (fun p => ((qs ++ [R]) ++ p.1, (m + (33 + c)) + p.2)) by
                  rw [hGo.out, hdc.out, e1.out, RW.ldL_step _ _ _ _ _ hDH.out (by rw [← hY, heq, hR]), ← hR, RW.map_some, RW.hds_snoc, List.drop_drop, show m + 1 + (c + 32) = m + (33 + c) by omega])
                clear hRl hOl hXl hY heq
                have q2 : (m : Int) + 1 + (c : Int) + 32 ≤ (s.size : Int) := by omega
                have hSH2 := hSH
                rw [show strRes (m + 1) (some (r, c)) = .tuple #[.string R, .int .i64 ((m + 1 + c : Nat) : Int), .int .i64 0] by rw [hR]; rfl] at hSH2
                clear hSH hR
                go_upto_region 5 with (first
                  | (go_at_call 82; refine hSH2.out.mono ?_; rintro e w' ⟨rfl, rfl⟩)
                  | (go_at_call 137; refine (check_yes _).mono ?_; rintro e w' ⟨rfl, rfl⟩))
                refine wp_region_k (fun _ W => Below B w W) (fun W => TA W w B tb (.slice none 0 0) rv (RW.strOf (RW.hds (RW.sha K) RW.z32 qs)) m rest T qs) [2, 9] (.op 0 (.op 1 (.op 3 (.op 4 (.op 5 (.op 6 (.op 7 (.op 2 (.op 8 (.op 9 .nil)))))))))) (by kernel_rfl) (by kernel_rfl) (by rfl) (by kernel_rfl) hBo.out.drew (hTo.out.next (Below.refl _ _).drew) ?_
                refine k_val (.pointer (some ⟨tb, 0, none⟩)) (by apply opN; repeat' (first | apply OpAt.z | apply OpAt.s)) (by rfl) (by rfl) (fun _ W hS => op_mv rfl rfl) ?_
                simp only [Act.put, List.setIfInBounds_toArray, List.set_cons_zero, List.set_cons_succ]
                refine k_val (.string R) (by apply opN; repeat' (first | apply OpAt.z | apply OpAt.s)) (by rfl) (by rfl) (fun _ W hS => op_mv rfl rfl) ?_
                simp only [Act.put, List.setIfInBounds_toArray, List.set_cons_zero, List.set_cons_succ]
                refine k_val (.string s) (by apply opN; repeat' (first | apply OpAt.z | apply OpAt.s)) (by rfl) (by rfl) (fun _ W hS => op_mv rfl rfl) ?_
                simp only [Act.put, List.setIfInBounds_toArray, List.set_cons_zero, List.set_cons_succ]
                refine k_val (.int .i64 (m : Int)) (by apply opN; repeat' (first | apply OpAt.z | apply OpAt.s)) (by rfl) (by rfl) (fun _ W hS => op_mv rfl rfl) ?_
                simp only [Act.put, List.setIfInBounds_toArray, List.set_cons_zero, List.set_cons_succ]
                refine k_val (.int .i64 ((m : Int) + 1 + (c : Int))) (by apply opN; repeat' (first | apply OpAt.z | apply OpAt.s)) (by rfl) (by rfl) (fun _ W hS => op_mv rfl rfl) ?_
                simp only [Act.put, List.setIfInBounds_toArray, List.set_cons_zero, List.set_cons_succ]
                refine k_val (.int .i64 ((m + 1 + c + 32 : Nat) : Int)) (by apply opN; repeat' (first | apply OpAt.z | apply OpAt.s)) (by rfl) (by rfl) (fun _ W hS => op_addj rfl rfl rfl (by omega) (by omega)) ?_
                simp only [Act.put, List.setIfInBounds_toArray, List.set_cons_zero, List.set_cons_succ]
                refine k_val (.string X) (by apply opN; repeat' (first | apply OpAt.z | apply OpAt.s)) (by rfl) (by rfl) (fun _ W hS => (op_sls rfl rfl rfl rfl (by omega) (by omega)).trans (by rw [hX.out])) ?_
                simp only [Act.put, List.setIfInBounds_toArray, List.set_cons_zero, List.set_cons_succ]
                refine k_step (fun K' u => ∃ rv1, u = .string O ∧ K' = fun W => TA W w B tb (.slice none 0 0) rv1 N (m + (33 + c)) rest T (qs ++ [R])) (by apply opN; repeat' (first | apply OpAt.z | apply OpAt.s)) (by rfl) (by rfl) (by rfl) (fun W hCW hK => ?_) ?_
                · refine op_x2 rfl rfl rfl rfl cf_tadd ?_
                  refine (tadd_any tb B rv (RW.strOf (RW.hds (RW.sha K) RW.z32 qs)) R m rest T hTH.out qs (by have := hql.out; omega) hR16.out hhd.out (by omega) K ks hks W (hKW.out W hCW).1 (Nat.le_trans hBH.out hCW.size) hK.b hK.own).mono ?_
                  rintro e W' ⟨rfl, rv1, h5⟩
                  rw [RW.strOf_list, ← hN.out, hlen.out] at h5
                  exact ⟨_, rfl, hCW.trans (h5.ch.belowJ (fun k hk => hk.elim (fun e => e ▸ htbH.out) fun e => (own_blk hK.own e).1) (Nat.le_trans hBH.out hCW.size)), _, TA.comp hK h5, rv1, by rw [RW.strOf_list, hO.out], rfl⟩
                rintro _ _ ⟨rv1, rfl, rfl⟩
                simp only [Act.put, List.setIfInBounds_toArray, List.set_cons_zero, List.set_cons_succ]
                refine k_val (.bool true) (by apply opN; repeat' (first | apply OpAt.z | apply OpAt.s)) (by rfl) (by rfl) (fun _ W hS => op_eqss rfl rfl rfl hOX.out) ?_
                simp only [Act.put, List.setIfInBounds_toArray, List.set_cons_zero, List.set_cons_succ]
                refine k_step (fun K' u => u = .tuple #[] ∧ K' = fun W => TA W w B tb (.slice none 0 0) rv1 N (m + (33 + c)) rest T (qs ++ [R])) (by apply opN; repeat' (first | apply OpAt.z | apply OpAt.s)) (by rfl) (by rfl) (by rfl) (fun W hCW hK => ?_) ?_
                · refine op_x1 rfl rfl rfl cf_check ?_
                  refine (check_yes W).mono ?_
                  rintro e W' ⟨rfl, rfl⟩
                  exact ⟨_, rfl, hCW, _, hK, rfl, rfl⟩
                rintro _ _ ⟨rfl, rfl⟩
                simp only [Act.put, List.setIfInBounds_toArray, List.set_cons_zero, List.set_cons_succ]
                refine k_nil ?_
                intro W hCW hK
                have hT9 := hide hK
                have c9 := cell_of hK.b (tpc2 _ _ _ _)
                clear hCW hK
                go_wp2
                go_roundw
                case rel => exact ⟨qs ++ [R], m + (33 + c), rv1, by omega, c9, by rw [hHd.out]; exact hT9.out, hGn.out, by rw [List.length_append]; have := hql.out; simp; omega⟩
                case measure => rw [c9, c2]; show s.size - (m + (33 + c)) < s.size - m; omega
              · have hOX := hide (show O ≠ X from fun e => heq (by
                  rw [e, hXl, List.cons.injEq] at hOl
                  exact List.append_cancel_left hOl.2))
                have hG1 := hide (show G = none by
                  rw [hGo.out, hdc.out, e1.out, RW.ldL_head _ _ _ _ _ hDH.out (by rw [← hY, ← hR]; exact heq)]
                  rfl)
                clear hRl hOl hXl hY heq hHd
                have q2 : (m : Int) + 1 + (c : Int) + 32 ≤ (s.size : Int) := by omega
                have hSH2 := hSH
                rw [show strRes (m + 1) (some (r, c)) = .tuple #[.string R, .int .i64 ((m + 1 + c : Nat) : Int), .int .i64 0] by rw [hR]; rfl] at hSH2
                clear hSH hR
                go_upto_region 5 with (first
                  | (go_at_call 82; refine hSH2.out.mono ?_; rintro e w' ⟨rfl, rfl⟩)
                  | (go_at_call 137; refine (check_yes _).mono ?_; rintro e w' ⟨rfl, rfl⟩))
                refine wp_region_kP (fun ch W => ch = [{ v := RW.jeW a, recovered := false }] ∧ Below B w W) (fun ch a' w' hd hp => ?_) (fun _ W => Below B w W) (fun W => TA W w B tb (.slice none 0 0) rv (RW.strOf (RW.hds (RW.sha K) RW.z32 qs)) m rest T qs) [2, 9] (.op 0 (.op 1 (.op 3 (.op 4 (.op 5 (.op 6 (.op 7 (.op 2 (.op 8 (.op 9 .nil)))))))))) (by kernel_rfl) (by kernel_rfl) (by rfl) (by kernel_rfl) hBo.out.drew (hTo.out.next (Below.refl _ _).drew) ?_
                · obtain ⟨rfl, hB9⟩ := hp
                  exact ⟨hd, hB9, .inl ⟨hG1.out, rfl⟩⟩
                refine k_val (.pointer (some ⟨tb, 0, none⟩)) (by apply opN; repeat' (first | apply OpAt.z | apply OpAt.s)) (by rfl) (by rfl) (fun _ W hS => op_mv rfl rfl) ?_
                simp only [Act.put, List.setIfInBounds_toArray, List.set_cons_zero, List.set_cons_succ]
                refine k_val (.string R) (by apply opN; repeat' (first | apply OpAt.z | apply OpAt.s)) (by rfl) (by rfl) (fun _ W hS => op_mv rfl rfl) ?_
                simp only [Act.put, List.setIfInBounds_toArray, List.set_cons_zero, List.set_cons_succ]
                refine k_val (.string s) (by apply opN; repeat' (first | apply OpAt.z | apply OpAt.s)) (by rfl) (by rfl) (fun _ W hS => op_mv rfl rfl) ?_
                simp only [Act.put, List.setIfInBounds_toArray, List.set_cons_zero, List.set_cons_succ]
                refine k_val (.int .i64 (m : Int)) (by apply opN; repeat' (first | apply OpAt.z | apply OpAt.s)) (by rfl) (by rfl) (fun _ W hS => op_mv rfl rfl) ?_
                simp only [Act.put, List.setIfInBounds_toArray, List.set_cons_zero, List.set_cons_succ]
                refine k_val (.int .i64 ((m : Int) + 1 + (c : Int))) (by apply opN; repeat' (first | apply OpAt.z | apply OpAt.s)) (by rfl) (by rfl) (fun _ W hS => op_mv rfl rfl) ?_
                simp only [Act.put, List.setIfInBounds_toArray, List.set_cons_zero, List.set_cons_succ]
                refine k_val (.int .i64 ((m + 1 + c + 32 : Nat) : Int)) (by apply opN; repeat' (first | apply OpAt.z | apply OpAt.s)) (by rfl) (by rfl) (fun _ W hS => op_addj rfl rfl rfl (by omega) (by omega)) ?_
                simp only [Act.put, List.setIfInBounds_toArray, List.set_cons_zero, List.set_cons_succ]
                refine k_val (.string X) (by apply opN; repeat' (first | apply OpAt.z | apply OpAt.s)) (by rfl) (by rfl) (fun _ W hS => (op_sls rfl rfl rfl rfl (by omega) (by omega)).trans (by rw [hX.out])) ?_
                simp only [Act.put, List.setIfInBounds_toArray, List.set_cons_zero, List.set_cons_succ]
                refine k_step (fun K' u => ∃ rv1, u = .string O ∧ K' = fun W => TA W w B tb (.slice none 0 0) rv1 N (m + (33 + c)) rest T (qs ++ [R])) (by apply opN; repeat' (first | apply OpAt.z | apply OpAt.s)) (by rfl) (by rfl) (by rfl) (fun W hCW hK => ?_) ?_
                · refine op_x2 rfl rfl rfl rfl cf_tadd ?_
                  refine (tadd_any tb B rv (RW.strOf (RW.hds (RW.sha K) RW.z32 qs)) R m rest T hTH.out qs (by have := hql.out; omega) hR16.out hhd.out (by omega) K ks hks W (hKW.out W hCW).1 (Nat.le_trans hBH.out hCW.size) hK.b hK.own).mono ?_
                  rintro e W' ⟨rfl, rv1, h5⟩
                  rw [RW.strOf_list, ← hN.out, hlen.out] at h5
                  exact ⟨_, rfl, hCW.trans (h5.ch.belowJ (fun k hk => hk.elim (fun e => e ▸ htbH.out) fun e => (own_blk hK.own e).1) (Nat.le_trans hBH.out hCW.size)), _, TA.comp hK h5, rv1, by rw [RW.strOf_list, hO.out], rfl⟩
                rintro _ _ ⟨rv1, rfl, rfl⟩
                simp only [Act.put, List.setIfInBounds_toArray, List.set_cons_zero, List.set_cons_succ]
                refine k_val (.bool false) (by apply opN; repeat' (first | apply OpAt.z | apply OpAt.s)) (by rfl) (by rfl) (fun _ W hS => op_nss rfl rfl rfl hOX.out) ?_
                simp only [Act.put, List.setIfInBounds_toArray, List.set_cons_zero, List.set_cons_succ]
                refine k_stepP (fun K' u => False) (by apply opN; repeat' (first | apply OpAt.z | apply OpAt.s)) (by rfl) (by rfl) (by rfl) (fun W hCW hK => ?_) ?_
                · refine op_x1P rfl rfl rfl cf_check ?_
                  refine (check_no a W (hKW.out W hCW).2).mono ?_
                  rintro e W' ⟨rfl, rfl⟩
                  exact .inr ⟨_, rfl, rfl, hCW⟩
                rintro _ _ ⟨⟩
            · have q2 : decide ((m : Int) + 1 + (c : Int) + 32 ≤ (s.size : Int)) = false := decide_eq_false (by omega)
              have hG1 := hide (show G = none by
                rw [hGo.out, hdc.out, e1.out, RW.ldL_head _ _ _ _ _ hDH.out (fun e => by
                  have h2 := congrArg List.length e
                  have h3 : (RW.chn (RW.sha K) (RW.hds (RW.sha K) RW.z32 qs) ⟨r.toArray⟩).length = 32 := RW.sha_len _ _
                  rw [h3, List.length_take, List.length_drop, List.length_drop, size_list] at h2
                  omega)]
                rfl)
              go_wp2_with (first
                | (go_at_call 82; refine hSH.out.mono ?_; rintro e w' ⟨rfl, rfl⟩; unfold strRes)
                | (go_at_call 137; first | (refine (check_yes _).mono ?_; rintro e w' ⟨rfl, rfl⟩) | (refine (check_no a _ hgw).mono ?_; rintro e w' ⟨rfl, rfl⟩)))
              exact ⟨rfl, hBo.out, .inl ⟨hG1.out, rfl⟩⟩
        · have q1 : ((s[m].toNat : Int) == 1) = false := by simp; omega
          have hG1 := hide (show G = none by rw [hGo.out, hdc.out, RW.ldL_bad _ _ _ hne.out (fun e => h1 (by rw [e]; rfl))]; rfl)
          go_wp2_with (go_at_call 137; refine (check_no a _ hgw).mono ?_; rintro e w' ⟨rfl, rfl⟩)
          exact ⟨rfl, hBo.out, .inl ⟨hG1.out, rfl⟩⟩
    · obtain rfl : s.size = m := by omega
      have hG1 := hide (show G = some (qs, s.size) from by
        rw [hGo.out, List.drop_eq_nil_of_le (by rw [size_list]; exact Nat.le_refl _), RW.ldL_nil]
        simp)
      go_wp2
      go_end0
      exact ⟨hBo.out, .inr ⟨qs, s.size, rv, hG1.out, rfl, hTo.out⟩⟩
end Go.Proofs.YtllbphanfahkkaaGreatDoor

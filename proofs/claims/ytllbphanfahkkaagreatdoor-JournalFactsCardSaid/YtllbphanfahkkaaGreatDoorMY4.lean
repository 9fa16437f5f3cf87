/-
  Package journal: check, tape.load: what they do: a content that is damaged ends in a panic.
-/
import Derived.Test.YtllbphanfahkkaaGreatDoorMY3
import Derived.Recover
import Derived.WalkLawsBesides
namespace Go.Proofs.YtllbphanfahkkaaGreatDoor
open Go.RowKit RG
namespace RW
def jeW (a : Addr) : Value := .iface 282 (.pointer (some a))
theorem map_some {r : ByteArray} {c : Nat} {X : Option (List ByteArray × Nat)} {qs : List ByteArray} {m : Nat} :
    (X.map fun p => (r :: p.1, 33 + c + p.2)).map (fun p => (qs ++ p.1, m + p.2)) = X.map fun p => ((qs ++ [r]) ++ p.1, (m + (33 + c)) + p.2) := by
  cases X with
  | none => rfl
  | some p => simp [Nat.add_assoc]
end RW
namespace RW
theorem bytes_eq {a b : ByteArray} (h : a.data.toList = b.data.toList) : a = b := by
  cases a
  cases b
  simp only at h
  rw [Array.toList_inj.1 h]
end RW
theorem hds_len (K : Nat → Int) : ∀ (qs : List ByteArray), (RW.hds (RW.sha K) RW.z32 qs).length = 32 := fun qs => by
  rcases List.eq_nil_or_concat qs with rfl | ⟨l, x, rfl⟩
  · rfl
  · rw [List.concat_eq_append, RW.hds_snoc]
    exact RW.sha_len _ _
/-- a tape that has turned twice -/
theorem TA.comp {W' W w : World} {B tb : Nat} {rv1 rv rv0 : Value} {hd hd' : ByteArray} {n n' : Nat} {rest : List Value} {T : TypeId} {rs rs' : List ByteArray} (h : TA W w B tb rv0 rv hd n rest T rs) (g : TA W' W B tb rv rv1 hd' n' rest T rs') : TA W' w B tb rv0 rv1 hd' n' rest T rs' := by
  refine ⟨g.b, g.own, ⟨g.ch.os.trans h.ch.os, g.ch.tape.trans h.ch.tape, g.ch.output.trans h.ch.output, Nat.le_trans h.ch.size g.ch.size, fun k hk hn => ?_⟩, ?_⟩
  · refine (g.ch.block k (Nat.lt_of_lt_of_le hk h.ch.size) ?_).trans (h.ch.block k hk hn)
    rintro (e | e)
    · exact hn (.inl e)
    · rcases h.ob with e2 | ⟨x, e2, e3⟩
      · exact hn (.inr (e2 ▸ e))
      · rw [e] at e2
        cases e2
        omega
  · rcases g.ob with e | ⟨x, e, e3⟩
    · rw [e]
      exact h.ob
    · exact .inr ⟨x, e, Nat.le_trans h.ch.size e3⟩
section
variable {ev : Operand → Value} {o : Oper} {x y z : Operand} {w : World}
theorem op_x1P {Pn : List PanicEntry → World → Prop} {D : Value → World → Prop} {k : Nat} {ts : Array TypeId} {n : Value} (ho : o.op = .call ⟨.value (.func k), #[x], ts⟩) (hf : ev (.func k) = .func (.func k) #[] #[]) (hx : ev x = n) (hk : ∀ args w, (callFunc k args).run Tryz.prog w = .ok (.enter k args) w)
    (h : Calls Tryz.prog k #[n] w fun e w'' => (∃ u, e = .returned u ∧ D u w'') ∨ ∃ c, e = .panicked c ∧ Pn c w'') : XUpP Tryz.prog Pn D ((execOp ev o).run Tryz.prog w) := by
  have h1 : (execOp ev o).run Tryz.prog w = .ok (.enter k #[n]) w := by
    unfold execOp
    rw [ho]
    go_simp
  rw [h1]
  exact h
theorem op_addj {m n r : Int} (ho : o.op = .binOp .add 3 x y 3) (hx : ev x = .int .i64 m) (hy : ev y = .int .i64 n) (h : m + n = r) (hb : -9223372036854775808 ≤ r ∧ r ≤ 9223372036854775807) : (execOp ev o).run Tryz.prog w = .ok (.value (.int .i64 r)) w := by
  unfold execOp
  rw [ho]
  simp only [hx, hy]
  go_simp
  rw [IntKind.wrap_i64]
  omega
theorem op_sls {s : ByteArray} {i j : Nat} (ho : o.op = .slice 9 x (some y) (some z) none) (hx : ev x = .string s) (hy : ev y = .int .i64 (i : Int)) (hz : ev z = .int .i64 (j : Int)) (hij : i ≤ j) (hj : j ≤ s.size) : (execOp ev o).run Tryz.prog w = .ok (.value (.string (s.extract i j))) w := by
  have h1 : (0 : Int) ≤ (i : Int) := by omega
  have h2 : (i : Int) ≤ (j : Int) := by omega
  have h3 : (j : Int) ≤ (s.size : Int) := by omega
  unfold execOp
  rw [ho]
  simp only [hx, hy, hz, Option.map_some, Option.map_none]
  go_simp
theorem op_eqss {a b : ByteArray} (ho : o.op = .binOp .eql 9 x y 9) (hx : ev x = .string a) (hy : ev y = .string b) (h : a = b) : (execOp ev o).run Tryz.prog w = .ok (.value (.bool true)) w := by
  subst h
  unfold execOp
  rw [ho]
  simp only [hx, hy]
  go_simp
theorem op_nss {a b : ByteArray} (ho : o.op = .binOp .eql 9 x y 9) (hx : ev x = .string a) (hy : ev y = .string b) (h : a ≠ b) : (execOp ev o).run Tryz.prog w = .ok (.value (.bool false)) w := by
  have h2 : (a.toList == b.toList) = false := by
    rw [beq_eq_false_iff_ne, ByteArray.toList_eq, ByteArray.toList_eq]
    exact fun e => h (RW.bytes_eq e)
  unfold execOp
  rw [ho]
  simp only [hx, hy]
  go_simp
end
theorem cf_tadd : ∀ args w, (callFunc 43 args).run Tryz.prog w = .ok (.enter 43 args) w := fun args w => by go_simp
theorem cf_check : ∀ args w, (callFunc 137 args).run Tryz.prog w = .ok (.enter 137 args) w := fun args w => by go_simp
theorem hide_decS {l t : List UInt8} {c : Nat} (h : RW.decS l = some (t, c)) : c ≤ l.length ∧ t.length ≤ l.length ∧ t.length ≤ 65536 := by
  obtain ⟨h1, h2⟩ := RW.decS_take l t c h
  have h3 := congrArg List.length h1
  have h4 := RW.putI_len (t.length : Int)
  rcases hI : RW.decI l with _ | ⟨n, k⟩
  · rw [RW.decS_none _ hI] at h; cases h
  · rw [RW.decS_some _ _ _ hI] at h
    split at h
    · cases h
    · have hkl := RW.decI_le _ _ _ hI
      cases h
      refine ⟨by omega, by rw [List.length_take, List.length_drop]; omega, h2⟩
theorem check_yes (w : World) : Calls Tryz.prog 137 #[.bool true] w fun e w' => e = .returned (.tuple #[]) ∧ w = w' := by
  go_enter Tryz.func137, Tryz.ntmps137
  go_wp2
  go_end0
  exact ⟨rfl, rfl⟩
theorem check_no (a : Addr) (w : World) (hg : w.cell? ⟨1, 0, none⟩ = some (RW.jeW a)) :
    Calls Tryz.prog 137 #[.bool false] w fun e w' => e = .panicked [{ v := RW.jeW a, recovered := false }] ∧ w = w' := by
  unfold RW.jeW at hg ⊢
  go_enter Tryz.func137, Tryz.ntmps137
  go_wp2
  exact ⟨rfl, rfl, rfl⟩
set_option maxRecDepth 10000 in
set_option maxHeartbeats 8000000 in
theorem load_any (tb B : Nat) (rest : List Value) (T : TypeId) (hT : T ≠ 9) (s : ByteArray) (hs : s.size ≤ 4194304) (a : Addr) (K : Nat → Int) (ks : Array Value) (hks : RW.WsOk ks K) (w : World) (hK : KLaid w ks) (hg : w.cell? ⟨1, 0, none⟩ = some (RW.jeW a)) (hB : B ≤ w.heap.size) (htb : B ≤ tb) (hgl : 1 < B) (hkl : 4 < B)
    (hb : w.heap[tb]? = some (.cells (tpc (.slice none 0 0) (RW.strOf RW.z32) 0 rest) T (0, 0))) :
    Calls Tryz.prog 95 #[.pointer (some ⟨tb, 0, none⟩), .string s] w fun e w' => Below B w w' ∧
      ((RW.ldL (RW.sha K) RW.z32 s.data.toList = none ∧ e = .panicked [{ v := RW.jeW a, recovered := false }]) ∨
      ∃ qs m rv, RW.ldL (RW.sha K) RW.z32 s.data.toList = some (qs, m) ∧ e = .returned (.tuple #[]) ∧ TA w' w B tb (.slice none 0 0) rv (RW.strOf (RW.hds (RW.sha K) RW.z32 qs)) m rest T qs) := by
  have hTH := hide hT
  have hBH := hide hB
  have htbH := hide htb
  have hKW := hide (fun W (hW : Below B w W) => (show KLaid W ks ∧ W.cell? ⟨1, 0, none⟩ = some (RW.jeW a) from by
    obtain ⟨t, fr, h⟩ := hK
    exact ⟨⟨t, fr, (hW.block _ hkl).trans h⟩, (World.cell?_of_block (a := ⟨1, 0, none⟩) (hW.block _ hgl)).trans hg⟩))
  have hT0 := hide (show TA w w B tb (.slice none 0 0) (.slice none 0 0) (RW.strOf RW.z32) 0 rest T [] from ⟨hb, ⟨rfl, .inl ⟨rfl, rfl⟩⟩, ChgS.refl _ _, .inl rfl⟩)
  obtain ⟨G, hG⟩ : ∃ G, G = RW.ldL (RW.sha K) RW.z32 s.data.toList := ⟨_, rfl⟩
  rw [← hG]
  have hGH := hide hG
  clear hT hB htb hK hg hb hG hgl hkl
  go_enter Tryz.func95, Tryz.ntmps95
  go_wp2
  go_loopw [4] (fun (_ : Value) wr => ∃ (qs : List ByteArray) (m : Nat) (rv : Value), m ≤ s.size ∧ wr.cell? ⟨tb, 2, none⟩ = some (.int .i64 (m : Int)) ∧ Hid (TA wr w B tb (.slice none 0 0) rv (RW.strOf (RW.hds (RW.sha K) RW.z32 qs)) m rest T qs ∧ G = (RW.ldL (RW.sha K) (RW.hds (RW.sha K) RW.z32 qs) (s.data.toList.drop m)).map (fun p => (qs ++ p.1, m + p.2)) ∧ qs.length ≤ m))
    (fun (_ : Value) wr => s.size - RW.natOf (wr.cell? ⟨tb, 2, none⟩))
  case atStart => exact ⟨[], 0, .slice none 0 0, Nat.zero_le _, cell_of hT0.out.b (tpc2 _ _ _ _), hT0.out, by rw [hGH.out]; simp [RW.hds], Nat.le_refl _⟩
  case round =>
    obtain ⟨qs, m, rv, hm, c2, hQ⟩ := hrel
    obtain ⟨wo, hwo⟩ : ∃ wo, wo = wr := ⟨_, rfl⟩
    subst hwo
    have hTo := hide hQ.out.1
    have hGo := hide hQ.out.2.1
    have hql := hide hQ.out.2.2
    clear hQ hT0
    have hBo := hide (show Below B w wo from hTo.out.ch.belowJ (by
      rintro k (rfl | h)
      · exact htbH.out
      · cases h) hBH.out)
    by_cases hms : m < s.size
    · have hdc := hide (RW.drop_cons s m hms)
      by_cases h0 : s[m].toNat = 0
      · have hG1 := hide (show G = some (qs, m) from by
          rw [hGo.out, hdc.out, show s[m] = 0 from UInt8.toNat_inj.1 (by rw [h0]; rfl), RW.ldL_zero]
          simp)
        go_wp2
        go_end0
        exact ⟨hBo.out, .inr ⟨qs, m, rv, hG1.out, rfl, hTo.out⟩⟩
      · have hne := hide (show s[m] ≠ 0 from fun e => h0 (by rw [e]; rfl))
        have hgw := (hKW.out wo hBo.out).2
        by_cases h1 : s[m].toNat = 1
        · have q1 : ((s[m].toNat : Int) == 1) = true := by simp; omega
          have e1 := hide (show s[m] = 1 from UInt8.toNat_inj.1 (by rw [h1]; rfl))
          have hS := str_walk s (m + 1) wo (by omega) (by omega)
          rcases hD : RW.decS (s.data.toList.drop (m + 1)) with _ | ⟨r, c⟩
          · rw [hD] at hS
            have hSH := hide hS
            have hG1 := hide (show G = none by rw [hGo.out, hdc.out, e1.out, RW.ldL_none _ _ _ hD]; rfl)
            clear hS hD
            go_wp2_with (first
              | (go_at_call 82; refine hSH.out.mono ?_; rintro e w' ⟨rfl, rfl⟩; unfold strRes)
              | (go_at_call 137; first | (refine (check_yes _).mono ?_; rintro e w' ⟨rfl, rfl⟩) | (refine (check_no a _ hgw).mono ?_; rintro e w' ⟨rfl, rfl⟩)))
            exact ⟨rfl, hBo.out, .inl ⟨hG1.out, rfl⟩⟩
          · rw [hD] at hS
            have hSH := hide hS
            obtain ⟨hcl, htl, hr16⟩ := hide_decS hD
            have hll : (s.data.toList.drop (m + 1)).length = s.size - (m + 1) := by rw [List.length_drop, size_list]
            rw [hll] at hcl
            have hDH := hide hD
            clear hS hD hll
            by_cases hf : m + 1 + c + 32 ≤ s.size
            · obtain ⟨R, hR⟩ : ∃ R : ByteArray, R = ⟨r.toArray⟩ := ⟨_, rfl⟩
              have hRl : R.data.toList = r := by rw [hR]
              have hR16 := hide (show R.size ≤ 65536 by rw [← size_list, hRl]; exact hr16)
              have hhd := hide (show (RW.strOf (RW.hds (RW.sha K) RW.z32 qs)).size = 32 by rw [RW.strOf_size]; exact hds_len K qs)
              obtain ⟨N, hN'⟩ : ∃ N : ByteArray, N = ⟨(RW.chn (RW.sha K) (RW.hds (RW.sha K) RW.z32 qs) R).toArray⟩ := ⟨_, rfl⟩
              have hN := hide hN'
              obtain ⟨O, hO'⟩ : ∃ O : ByteArray, O = ⟨(RW.sto (RW.sha K) (RW.hds (RW.sha K) RW.z32 qs) R).toArray⟩ := ⟨_, rfl⟩
              have hO := hide hO'
              obtain ⟨g1, _⟩ := RW.decS_take _ _ _ hDH.out
              have hpl : (RW.putS r).length = c := by
                rw [← g1, List.length_take, List.length_drop, size_list]
                omega
              have hlen := hide (show (RW.sto (RW.sha K) (RW.hds (RW.sha K) RW.z32 qs) R).length = 33 + c by rw [RW.sto_len _ (RW.sha_len K), hRl, hpl])
              obtain ⟨X, hX'⟩ : ∃ X : ByteArray, X = s.extract m (m + 1 + c + 32) := ⟨_, rfl⟩
              have hX := hide hX'
              obtain ⟨Y, hY⟩ : ∃ Y, Y = ((s.data.toList.drop (m + 1)).drop c).take 32 := ⟨_, rfl⟩
              have hXl : X.data.toList = 1 :: (RW.putS r ++ Y) := by
                rw [hX', RW.extract_eq s m (m + 1 + c + 32) (by omega), hdc.out, e1.out, show m + 1 + c + 32 - m = (c + 32) + 1 by omega, List.take_succ_cons, List.take_add, g1, hY]
              have hOl : O.data.toList = 1 :: (RW.putS r ++ RW.chn (RW.sha K) (RW.hds (RW.sha K) RW.z32 qs) R) := by
                rw [hO']
                show RW.sto _ _ _ = _
                unfold RW.sto
                rw [hRl]
              have hHd := hide (show RW.strOf (RW.hds (RW.sha K) RW.z32 (qs ++ [R])) = N by rw [RW.hds_snoc, hN']; rfl)
              clear hN' hO' hX' g1 hpl hr16
              by_cases heq : Y = RW.chn (RW.sha K) (RW.hds (RW.sha K) RW.z32 qs) R
              · have hOX := hide (show O = X from RW.bytes_eq (by rw [hOl, hXl, heq]))
                have hGn := hide (show G = (RW.ldL (RW.sha K) (RW.hds (RW.sha K) RW.z32 (qs ++ [R])) (s.data.toList.drop (m + (33 + c)))).map (fun p => ((qs ++ [R]) ++ p.1, (m + (33 + c)) + p.2)) by
                  rw [hGo.out, hdc.out, e1.out, RW.ldL_step _ _ _ _ _ hDH.out (by rw [← hY, heq, hR]), ← hR, RW.map_some, RW.hds_snoc, List.drop_drop, show m + 1 + (c + 32) = m + (33 + c) by omega])
                clear hRl hOl hXl hY heq
                have q2 : (m : Int) + 1 + (c : Int) + 32 ≤ (s.size : Int) := by omega
                have hSH2 := hSH
                rw [show strRes (m + 1) (some (r, c)) = .tuple #[.string R, .int .i64 ((m + 1 + c : Nat) : Int), .int .i64 0] by rw [hR]; rfl] at hSH2
                clear hSH hR
                go_upto_region 5 with (first
                  | (go_at_call 82; refine hSH2.out.mono ?_; rintro e w' ⟨rfl, rfl⟩)
                  | (go_at_call 137; refine (check_yes _).mono ?_; rintro e w' ⟨rfl, rfl⟩))
                refine wp_region_k (fun _ W => Below B w W) (fun W => TA W w B tb (.slice none 0 0) rv (RW.strOf (RW.hds (RW.sha K) RW.z32 qs)) m rest T qs) [2, 9] (.op 0 (.op 1 (.op 3 (.op 4 (.op 5 (.op 6 (.op 7 (.op 2 (.op 8 (.op 9 .nil)))))))))) (by kernel_rfl) (by kernel_rfl) (by rfl) (by kernel_rfl) hBo.out.drew (hTo.out.next (Below.refl _ _).drew) ?_
                refine k_val (.pointer (some ⟨tb, 0, none⟩)) (by apply opN; repeat' (first | apply OpAt.z | apply OpAt.s)) (by rfl) (by rfl) (fun _ W hS => op_mv rfl rfl) ?_
                simp only [Act.put, List.setIfInBounds_toArray, List.set_cons_zero, List.set_cons_succ]
                refine k_val (.string R) (by apply opN; repeat' (first | apply OpAt.z | apply OpAt.s)) (by rfl) (by rfl) (fun _ W hS => op_mv rfl rfl) ?_
                simp only [Act.put, List.setIfInBounds_toArray, List.set_cons_zero, List.set_cons_succ]
                refine k_val (.string s) (by apply opN; repeat' (first | apply OpAt.z | apply OpAt.s)) (by rfl) (by rfl) (fun _ W hS => op_mv rfl rfl) ?_
                simp only [Act.put, List.setIfInBounds_toArray, List.set_cons_zero, List.set_cons_succ]
                refine k_val (.int .i64 (m : Int)) (by apply opN; repeat' (first | apply OpAt.z | apply OpAt.s)) (by rfl) (by rfl) (fun _ W hS => op_mv rfl rfl) ?_
                simp only [Act.put, List.setIfInBounds_toArray, List.set_cons_zero, List.set_cons_succ]
                refine k_val (.int .i64 ((m : Int) + 1 + (c : Int))) (by apply opN; repeat' (first | apply OpAt.z | apply OpAt.s)) (by rfl) (by rfl) (fun _ W hS => op_mv rfl rfl) ?_
                simp only [Act.put, List.setIfInBounds_toArray, List.set_cons_zero, List.set_cons_succ]
                refine k_val (.int .i64 ((m + 1 + c + 32 : Nat) : Int)) (by apply opN; repeat' (first | apply OpAt.z | apply OpAt.s)) (by rfl) (by rfl) (fun _ W hS => op_addj rfl rfl rfl (by omega) (by omega)) ?_
                simp only [Act.put, List.setIfInBounds_toArray, List.set_cons_zero, List.set_cons_succ]
                refine k_val (.string X) (by apply opN; repeat' (first | apply OpAt.z | apply OpAt.s)) (by rfl) (by rfl) (fun _ W hS => (op_sls rfl rfl rfl rfl (by omega) (by omega)).trans (by rw [hX.out])) ?_
                simp only [Act.put, List.setIfInBounds_toArray, List.set_cons_zero, List.set_cons_succ]
                refine k_step (fun K' u => ∃ rv1, u = .string O ∧ K' = fun W => TA W w B tb (.slice none 0 0) rv1 N (m + (33 + c)) rest T (qs ++ [R])) (by apply opN; repeat' (first | apply OpAt.z | apply OpAt.s)) (by rfl) (by rfl) (by rfl) (fun W hCW hK => ?_) ?_
                · refine op_x2 rfl rfl rfl rfl cf_tadd ?_
                  refine (tadd_any tb B rv (RW.strOf (RW.hds (RW.sha K) RW.z32 qs)) R m rest T hTH.out qs (by have := hql.out; omega) hR16.out hhd.out (by omega) K ks hks W (hKW.out W hCW).1 (Nat.le_trans hBH.out hCW.size) hK.b hK.own).mono ?_
                  rintro e W' ⟨rfl, rv1, h5⟩
                  rw [RW.strOf_list, ← hN.out, hlen.out] at h5
                  exact ⟨_, rfl, hCW.trans (h5.ch.belowJ (fun k hk => hk.elim (fun e => e ▸ htbH.out) fun e => (own_blk hK.own e).1) (Nat.le_trans hBH.out hCW.size)), _, TA.comp hK h5, rv1, by rw [RW.strOf_list, hO.out], rfl⟩
                rintro _ _ ⟨rv1, rfl, rfl⟩
                simp only [Act.put, List.setIfInBounds_toArray, List.set_cons_zero, List.set_cons_succ]
                refine k_val (.bool true) (by apply opN; repeat' (first | apply OpAt.z | apply OpAt.s)) (by rfl) (by rfl) (fun _ W hS => op_eqss rfl rfl rfl hOX.out) ?_
                simp only [Act.put, List.setIfInBounds_toArray, List.set_cons_zero, List.set_cons_succ]
                refine k_step (fun K' u => u = .tuple #[] ∧ K' = fun W => TA W w B tb (.slice none 0 0) rv1 N (m + (33 + c)) rest T (qs ++ [R])) (by apply opN; repeat' (first | apply OpAt.z | apply OpAt.s)) (by rfl) (by rfl) (by rfl) (fun W hCW hK => ?_) ?_
                · refine op_x1 rfl rfl rfl cf_check ?_
                  refine (check_yes W).mono ?_
                  rintro e W' ⟨rfl, rfl⟩
                  exact ⟨_, rfl, hCW, _, hK, rfl, rfl⟩
                rintro _ _ ⟨rfl, rfl⟩
                simp only [Act.put, List.setIfInBounds_toArray, List.set_cons_zero, List.set_cons_succ]
                refine k_nil ?_
                intro W hCW hK
                have hT9 := hide hK
                have c9 := cell_of hK.b (tpc2 _ _ _ _)
                clear hCW hK
                go_wp2
                go_roundw
                case rel => exact ⟨qs ++ [R], m + (33 + c), rv1, by omega, c9, by rw [hHd.out]; exact hT9.out, hGn.out, by rw [List.length_append]; have := hql.out; simp; omega⟩
                case measure => rw [c9, c2]; show s.size - (m + (33 + c)) < s.size - m; omega
              · have hOX := hide (show O ≠ X from fun e => heq (by
                  rw [e, hXl, List.cons.injEq] at hOl
                  exact List.append_cancel_left hOl.2))
                have hG1 := hide (show G = none by
                  rw [hGo.out, hdc.out, e1.out, RW.ldL_head _ _ _ _ _ hDH.out (by rw [← hY, ← hR]; exact heq)]
                  rfl)
                clear hRl hOl hXl hY heq hHd
                have q2 : (m : Int) + 1 + (c : Int) + 32 ≤ (s.size : Int) := by omega
                have hSH2 := hSH
                rw [show strRes (m + 1) (some (r, c)) = .tuple #[.string R, .int .i64 ((m + 1 + c : Nat) : Int), .int .i64 0] by rw [hR]; rfl] at hSH2
                clear hSH hR
                go_upto_region 5 with (first
                  | (go_at_call 82; refine hSH2.out.mono ?_; rintro e w' ⟨rfl, rfl⟩)
                  | (go_at_call 137; refine (check_yes _).mono ?_; rintro e w' ⟨rfl, rfl⟩))
                refine wp_region_kP (fun ch W => ch = [{ v := RW.jeW a, recovered := false }] ∧ Below B w W) (fun ch a' w' hd hp => ?_) (fun _ W => Below B w W) (fun W => TA W w B tb (.slice none 0 0) rv (RW.strOf (RW.hds (RW.sha K) RW.z32 qs)) m rest T qs) [2, 9] (.op 0 (.op 1 (.op 3 (.op 4 (.op 5 (.op 6 (.op 7 (.op 2 (.op 8 (.op 9 .nil)))))))))) (by kernel_rfl) (by kernel_rfl) (by rfl) (by kernel_rfl) hBo.out.drew (hTo.out.next (Below.refl _ _).drew) ?_
                · obtain ⟨rfl, hB9⟩ := hp
                  exact ⟨hd, hB9, .inl ⟨hG1.out, rfl⟩⟩
                refine k_val (.pointer (some ⟨tb, 0, none⟩)) (by apply opN; repeat' (first | apply OpAt.z | apply OpAt.s)) (by rfl) (by rfl) (fun _ W hS => op_mv rfl rfl) ?_
                simp only [Act.put, List.setIfInBounds_toArray, List.set_cons_zero, List.set_cons_succ]
                refine k_val (.string R) (by apply opN; repeat' (first | apply OpAt.z | apply OpAt.s)) (by rfl) (by rfl) (fun _ W hS => op_mv rfl rfl) ?_
                simp only [Act.put, List.setIfInBounds_toArray, List.set_cons_zero, List.set_cons_succ]
                refine k_val (.string s) (by apply opN; repeat' (first | apply OpAt.z | apply OpAt.s)) (by rfl) (by rfl) (fun _ W hS => op_mv rfl rfl) ?_
                simp only [Act.put, List.setIfInBounds_toArray, List.set_cons_zero, List.set_cons_succ]
                refine k_val (.int .i64 (m : Int)) (by apply opN; repeat' (first | apply OpAt.z | apply OpAt.s)) (by rfl) (by rfl) (fun _ W hS => op_mv rfl rfl) ?_
                simp only [Act.put, List.setIfInBounds_toArray, List.set_cons_zero, List.set_cons_succ]
                refine k_val (.int .i64 ((m : Int) + 1 + (c : Int))) (by apply opN; repeat' (first | apply OpAt.z | apply OpAt.s)) (by rfl) (by rfl) (fun _ W hS => op_mv rfl rfl) ?_
                simp only [Act.put, List.setIfInBounds_toArray, List.set_cons_zero, List.set_cons_succ]
                refine k_val (.int .i64 ((m + 1 + c + 32 : Nat) : Int)) (by apply opN; repeat' (first | apply OpAt.z | apply OpAt.s)) (by rfl) (by rfl) (fun _ W hS => op_addj rfl rfl rfl (by omega) (by omega)) ?_
                simp only [Act.put, List.setIfInBounds_toArray, List.set_cons_zero, List.set_cons_succ]
                refine k_val (.string X) (by apply opN; repeat' (first | apply OpAt.z | apply OpAt.s)) (by rfl) (by rfl) (fun _ W hS => (op_sls rfl rfl rfl rfl (by omega) (by omega)).trans (by rw [hX.out])) ?_
                simp only [Act.put, List.setIfInBounds_toArray, List.set_cons_zero, List.set_cons_succ]
                refine k_step (fun K' u => ∃ rv1, u = .string O ∧ K' = fun W => TA W w B tb (.slice none 0 0) rv1 N (m + (33 + c)) rest T (qs ++ [R])) (by apply opN; repeat' (first | apply OpAt.z | apply OpAt.s)) (by rfl) (by rfl) (by rfl) (fun W hCW hK => ?_) ?_
                · refine op_x2 rfl rfl rfl rfl cf_tadd ?_
                  refine (tadd_any tb B rv (RW.strOf (RW.hds (RW.sha K) RW.z32 qs)) R m rest T hTH.out qs (by have := hql.out; omega) hR16.out hhd.out (by omega) K ks hks W (hKW.out W hCW).1 (Nat.le_trans hBH.out hCW.size) hK.b hK.own).mono ?_
                  rintro e W' ⟨rfl, rv1, h5⟩
                  rw [RW.strOf_list, ← hN.out, hlen.out] at h5
                  exact ⟨_, rfl, hCW.trans (h5.ch.belowJ (fun k hk => hk.elim (fun e => e ▸ htbH.out) fun e => (own_blk hK.own e).1) (Nat.le_trans hBH.out hCW.size)), _, TA.comp hK h5, rv1, by rw [RW.strOf_list, hO.out], rfl⟩
                rintro _ _ ⟨rv1, rfl, rfl⟩
                simp only [Act.put, List.setIfInBounds_toArray, List.set_cons_zero, List.set_cons_succ]
                refine k_val (.bool false) (by apply opN; repeat' (first | apply OpAt.z | apply OpAt.s)) (by rfl) (by rfl) (fun _ W hS => op_nss rfl rfl rfl hOX.out) ?_
                simp only [Act.put, List.setIfInBounds_toArray, List.set_cons_zero, List.set_cons_succ]
                refine k_stepP (fun K' u => False) (by apply opN; repeat' (first | apply OpAt.z | apply OpAt.s)) (by rfl) (by rfl) (by rfl) (fun W hCW hK => ?_) ?_
                · refine op_x1P rfl rfl rfl cf_check ?_
                  refine (check_no a W (hKW.out W hCW).2).mono ?_
                  rintro e W' ⟨rfl, rfl⟩
                  exact .inr ⟨_, rfl, rfl, hCW⟩
                rintro _ _ ⟨⟩
            · have q2 : decide ((m : Int) + 1 + (c : Int) + 32 ≤ (s.size : Int)) = false := decide_eq_false (by omega)
              have hG1 := hide (show G = none by
                rw [hGo.out, hdc.out, e1.out, RW.ldL_head _ _ _ _ _ hDH.out (fun e => by
                  have h2 := congrArg List.length e
                  have h3 : (RW.chn (RW.sha K) (RW.hds (RW.sha K) RW.z32 qs) ⟨r.toArray⟩).length = 32 := RW.sha_len _ _
                  rw [h3, List.length_take, List.length_drop, List.length_drop, size_list] at h2
                  omega)]
                rfl)
              go_wp2_with (first
                | (go_at_call 82; refine hSH.out.mono ?_; rintro e w' ⟨rfl, rfl⟩; unfold strRes)
                | (go_at_call 137; first | (refine (check_yes _).mono ?_; rintro e w' ⟨rfl, rfl⟩) | (refine (check_no a _ hgw).mono ?_; rintro e w' ⟨rfl, rfl⟩)))
              exact ⟨rfl, hBo.out, .inl ⟨hG1.out, rfl⟩⟩
        · have q1 : ((s[m].toNat : Int) == 1) = false := by simp; omega
          have hG1 := hide (show G = none by rw [hGo.out, hdc.out, RW.ldL_bad _ _ _ hne.out (fun e => h1 (by rw [e]; rfl))]; rfl)
          go_wp2_with (go_at_call 137; refine (check_no a _ hgw).mono ?_; rintro e w' ⟨rfl, rfl⟩)
          exact ⟨rfl, hBo.out, .inl ⟨hG1.out, rfl⟩⟩
    · obtain rfl : s.size = m := by omega
      have hG1 := hide (show G = some (qs, s.size) from by
        rw [hGo.out, List.drop_eq_nil_of_le (by rw [size_list]; exact Nat.le_refl _), RW.ldL_nil]
        simp)
      go_wp2
      go_end0
      exact ⟨hBo.out, .inr ⟨qs, s.size, rv, hG1.out, rfl, hTo.out⟩⟩
end Go.Proofs.YtllbphanfahkkaaGreatDoor

/-
  Package journal: open: what it returns: a journal, or that the disk is damaged.
-/
namespace Go.Proofs.YtllbphanfahkkaaGreatDoor
open Go.RowKit Go.Stop RG
/-- a journal in memory -/
structure JrAt (H : List UInt8 → List UInt8) (W : World) (B jb d : Nat) (rv : Value) (rs : List ByteArray) (br : Bool) : Prop where
  b : W.heap[jb]? = some (.cells (tpc rv (RW.strOf (RW.hds H RW.z32 rs)) (RW.stos H RW.z32 rs).length [.pointer (some ⟨d, 0, none⟩), .bool br]) 85 (0, 0))
  own : StrsOwn W B rv rs
  hb : B ≤ jb
theorem ta_nil (w : World) : (Instr.typeAssert .nilIface 20 91 true).run Tryz.prog w = .ok (.tuple #[.nilIface, .bool false]) w := by kernel_rfl
theorem ta_err (v : Value) (xT : TypeId) (w : World) : (Instr.typeAssert (.iface 282 v) xT 91 true).run Tryz.prog w = .ok (.tuple #[.iface 282 v, .bool true]) w := run_typeAssert_hasB Tryz.underlying91 (by kernel_rfl) v xT w
theorem own_mono {W : World} {B B' : Nat} {e : TypeId} {k n : Nat} {v : Value} {xs : List Value} (h : W.ownsRow B e k v n xs) (hb : B' ≤ B) : W.ownsRow B' e k v n xs := by
  refine ⟨h.1, h.2.imp id ?_⟩
  rintro ⟨g, cap, cur, h1, h2, h3, h4⟩
  exact ⟨g, cap, cur, h1, Nat.le_trans hb h2, h3, h4⟩
set_option maxRecDepth 100000 in
theorem jcatch_idle (B : Nat) (w : World) :
    CallsD Tryz.prog 94 #[.pointer (some ⟨B, 0, none⟩), .pointer (some ⟨B + 1, 0, none⟩)] .returning w fun e u' w' => e = .returned (.tuple #[]) ∧ u' = .returning ∧ w' = w := by
  refine callsD_of_wpS Tryz.func94 rfl fun c₀ cs hu => ?_
  simp only [Tryz.ntmps94, List.size_toArray, List.length_cons, List.length_nil, Nat.reduceAdd, Nat.reduceSub, Array.replicate_succ, Array.replicate_zero, List.push_toArray, List.append_toArray, List.nil_append, List.cons_append]
  apply wpS_seq
  apply wpS_region
  simp [wpOpsS, go_sem, recoverD, hu, Exit.thenS, ta_nil]
  refine wpS_of_wp ?_
  go_wp2
  cases c₀
  simp_all [bodyPostS, results, Tryz.results94]
set_option maxRecDepth 100000 in
set_option maxHeartbeats 2000000 in
theorem jcatch_panicking (B : Nat) (a : Addr) (v0 : Option Addr) (n0 : Int) (w : World) (hg : w.cell? ⟨1, 0, none⟩ = some (RW.jeW a))
    (hx : w.heap[B]? = some (.cells #[.pointer v0] 28 (0, 0))) (hy : w.heap[B + 1]? = some (.cells #[.int .i64 n0] 33 (0, 0))) :
    CallsD Tryz.prog 94 #[.pointer (some ⟨B, 0, none⟩), .pointer (some ⟨B + 1, 0, none⟩)] (.panicking [{ v := RW.jeW a, recovered := false }]) w fun e u' w' =>
      e = .returned (.tuple #[]) ∧ u' = .panicking [{ v := RW.jeW a, recovered := true }] ∧ w'.heap[B]? = some (.cells #[.pointer none] 28 (0, 0)) ∧ w'.heap[B + 1]? = some (.cells #[.int .i64 232] 33 (0, 0)) ∧ Below B w w' := by
  unfold RW.jeW at hg ⊢
  have hta := ta_err (.pointer (some a)) 20
  have c0 : w.cell? ⟨B, 0, none⟩ = some (.pointer v0) := cellAt hx 0
  have f0 : w.frozen? ⟨B, 0, none⟩ = false := unfrozen hx
  have hyS := hide (show ∀ v, (w.setCell ⟨B, 0, none⟩ v).heap[B + 1]? = some (.cells #[.int .i64 n0] 33 (0, 0)) from fun v => (Below.heap_setCell _ _ _ _ (show B + 1 ≠ B by omega)).trans hy)
  have c1 : ∀ v, (w.setCell ⟨B, 0, none⟩ v).cell? ⟨B + 1, 0, none⟩ = some (.int .i64 n0) := fun v => cellAt (hyS.out v) 0
  have f1 : ∀ v, (w.setCell ⟨B, 0, none⟩ v).frozen? ⟨B + 1, 0, none⟩ = false := fun v => unfrozen (hyS.out v)
  have q1 := hide (show ((w.setCell ⟨B, 0, none⟩ (.pointer none)).setCell ⟨B + 1, 0, none⟩ (.int .i64 232)).heap[B]? = some (.cells #[.pointer none] 28 (0, 0)) from
    (Below.heap_setCell _ _ _ _ (show B ≠ B + 1 by omega)).trans (heap_setCell_same _ _ _ _ _ _ hx))
  have q2 := hide (show ((w.setCell ⟨B, 0, none⟩ (.pointer none)).setCell ⟨B + 1, 0, none⟩ (.int .i64 232)).heap[B + 1]? = some (.cells #[.int .i64 232] 33 (0, 0)) from heap_setCell_same _ _ _ _ _ _ (hyS.out _))
  have q3 := hide (show Below B w ((w.setCell ⟨B, 0, none⟩ (.pointer none)).setCell ⟨B + 1, 0, none⟩ (.int .i64 232)) from ((Below.refl B w).setCell (p := ⟨B, 0, none⟩) (Nat.le_refl _) _).setCell (p := ⟨B + 1, 0, none⟩) (by show B ≤ B + 1; omega) _)
  clear hx hy
  refine callsD_of_wpS Tryz.func94 rfl fun c₀ cs hu => ?_
  simp only [Tryz.ntmps94, List.size_toArray, List.length_cons, List.length_nil, Nat.reduceAdd, Nat.reduceSub, Array.replicate_succ, Array.replicate_zero, List.push_toArray, List.append_toArray, List.nil_append, List.cons_append]
  apply wpS_seq
  apply wpS_region
  simp [wpOpsS, go_sem, recoverD, hu, Exit.thenS, hta]
  refine wpS_of_wp ?_
  go_wp2_with fail
  refine ((is_same a _).mono (R' := fun e W => e = .returned (.bool true) ∧ w = W) (fun _ _ h => ⟨h.1, h.2.symm⟩)).mono ?_
  rintro e w' ⟨rfl, rfl⟩
  go_wp2_with fail
  have q1' := q1.out
  have q2' := q2.out
  have q3' := q3.out
  clear q1 q2 q3 hyS c1 f1 c0 f0 hta
  generalize (w.setCell ⟨B, 0, none⟩ (.pointer none)).setCell ⟨B + 1, 0, none⟩ (.int .i64 232) = W at q1' q2' q3' ⊢
  simp [bodyPostS, results, Tryz.results94, q1', q2', q3']
theorem open_results (tmps : Array Value) (w : World) (B : Nat) (p : Option Addr) (v : Int) (h2 : tmps[4]? = some (.pointer (some ⟨B, 0, none⟩))) (h3 : tmps[5]? = some (.pointer (some ⟨B + 1, 0, none⟩)))
    (hx : w.heap[B]? = some (.cells #[.pointer p] 28 (0, 0))) (hy : w.heap[B + 1]? = some (.cells #[.int .i64 v] 33 (0, 0))) :
    (results Tryz.f59 tmps).run Tryz.prog w = .ok (.tuple #[.pointer p, .int .i64 v]) w := by
  have e1 : w.cell? ⟨B, 0, none⟩ = some (.pointer p) := cellAt hx 0
  have e2 : w.cell? ⟨B + 1, 0, none⟩ = some (.int .i64 v) := cellAt hy 0
  have e3 : (loadVar 33 ⟨B + 1, 0, none⟩).run Tryz.prog w = .ok (.int .i64 v) w := by simp [go_sem, e2]
  have e4 : (loadVar 28 ⟨B, 0, none⟩).run Tryz.prog w = .ok (.pointer p) w := by simp [go_sem, e1]
  simp [results, Tryz.results59, h2, h3, asAddr, e4, e3]
theorem jcells0 (d : Nat) : (#[.slice none 0 0, .string (RW.strOf RW.z32), .int .i64 0, .pointer (some ⟨d, 0, none⟩), .bool false] : Array Value) = tpc (.slice none 0 0) (RW.strOf RW.z32) 0 [.pointer (some ⟨d, 0, none⟩), .bool false] := rfl
set_option maxRecDepth 100000 in
set_option maxHeartbeats 8000000 in
theorem open_any (d : Nat) (s : ByteArray) (hs : s.size ≤ 4194304) (a : Addr) (K : Nat → Int) (ks : Array Value) (hks : RW.WsOk ks K) (w : World) (hK : KLaid w ks) (hg : w.cell? ⟨1, 0, none⟩ = some (RW.jeW a)) :
    Calls Tryz.prog 59 #[.pointer (some ⟨d, 0, none⟩), .string s] w fun e w' => Below w.heap.size w w' ∧
      ((RW.ldL (RW.sha K) RW.z32 s.data.toList = none ∧ e = .returned (.tuple #[.pointer none, .int .i64 232])) ∨
      ∃ qs m jb rv, RW.ldL (RW.sha K) RW.z32 s.data.toList = some (qs, m) ∧ e = .returned (.tuple #[.pointer (some ⟨jb, 0, none⟩), .int .i64 0]) ∧ JrAt (RW.sha K) w' w.heap.size jb d rv qs false) := by
  have hmf : ∀ (fn : Fn) (first cap : Array Value) (w : World), (Instr.makeFunc fn first cap).run Tryz.prog w = .ok (.func fn first cap) w := fun _ _ _ _ => rfl
  have hgl : 1 < w.heap.size := by
    cases h : w.heap[1]? with
    | none => simp [World.cell?, h] at hg
    | some o => exact (Array.getElem?_eq_some_iff.1 h).1
  have hkl : 4 < w.heap.size := by
    obtain ⟨t, fr, h⟩ := hK
    exact (Array.getElem?_eq_some_iff.1 h).1
  obtain ⟨B, hB⟩ : ∃ B, B = w.heap.size := ⟨_, rfl⟩
  rw [← hB] at hgl hkl ⊢
  have hBH := hide hB
  have hKW := hide (fun W (hW : Below B w W) => (show KLaid W ks ∧ W.cell? ⟨1, 0, none⟩ = some (RW.jeW a) from by
    obtain ⟨t, fr, h⟩ := hK
    exact ⟨⟨t, fr, (hW.block _ hkl).trans h⟩, (World.cell?_of_block (a := ⟨1, 0, none⟩) (hW.block _ hgl)).trans hg⟩))
  have hglH := hide hgl
  have hklH := hide hkl
  have h0 := hide (show ((w.alloc (.cells #[.pointer none] 28)).alloc (.cells #[.int .i64 0] 33)).heap[B]? = some (.cells #[.pointer none] 28 (0, 0)) ∧ ((w.alloc (.cells #[.pointer none] 28)).alloc (.cells #[.int .i64 0] 33)).heap[B + 1]? = some (.cells #[.int .i64 0] 33 (0, 0)) ∧ Below B w ((w.alloc (.cells #[.pointer none] 28)).alloc (.cells #[.int .i64 0] 33)) from
    ⟨by rw [hB]; exact alloc_old _ _ (alloc_at1 _ _), by rw [hB, ← alloc_size w (.cells #[.pointer none] 28)]; exact alloc_at1 _ _, by rw [hB]; exact alloc_bel (alloc_bel (Below.refl _ _) (Nat.le_refl _) _) (Nat.le_refl _) _⟩)
  have hmk : ∀ W : World, (Instr.makeSlice 39 (.int .i64 32) (.int .i64 32)).run Tryz.prog W = .ok (.slice (some ⟨W.heap.size, 0, none⟩) 32 32) (W.alloc (.cells (RW.byl RW.z32).toArray 5)) := fun W => run_make_by 32 (by decide) W
  clear hK hg hgl hkl
  go_enter_defers Tryz.func59, Tryz.ntmps59
  go_upto_region 2 with fail
  rw [← hB]
  refine gen_w (fun W => W.heap[B]? = some (.cells #[.pointer none] 28 (0, 0)) ∧ W.heap[B + 1]? = some (.cells #[.int .i64 0] 33 (0, 0)) ∧ Below B w W) h0.out ?_
  clear h0 hB
  rintro w1 ⟨hx1, hy1, hB1⟩
  obtain ⟨g, hg⟩ : ∃ g, g = w1.heap.size := ⟨_, rfl⟩
  have hlt1 := hide (show B + 1 < w1.heap.size from (Array.getElem?_eq_some_iff.1 hy1).1)
  obtain ⟨w2, hw2⟩ : ∃ x, x = w1.alloc (.cells (RW.byl RW.z32).toArray 5) := ⟨_, rfl⟩
  have hcv : (convert 39 9 (.slice (some ⟨w1.heap.size, 0, none⟩) 32 32)).run Tryz.prog (w1.alloc (.cells (RW.byl RW.z32).toArray 5)) = .ok (.string (RW.strOf RW.z32)) (w1.alloc (.cells (RW.byl RW.z32).toArray 5)) := by
    have h1 := run_conv (w1.alloc (.cells (RW.byl RW.z32).toArray 5)) w1.heap.size RW.z32 (alloc_at1 _ _) 0 32 32 (by decide)
    rw [List.drop_zero, show RW.z32.take 32 = RW.z32 from rfl] at h1
    exact h1
  have c0 : ((w1.alloc (.cells (RW.byl RW.z32).toArray 5)).alloc (.cells #[.slice none 0 0, .string (RW.strOf RW.z32), .int .i64 0, .pointer (some ⟨d, 0, none⟩), .bool false] 85)).cell? ⟨B, 0, none⟩ = some (.pointer none) := cellAt (alloc_old _ _ (alloc_old _ _ hx1)) 0
  have f0 : ((w1.alloc (.cells (RW.byl RW.z32).toArray 5)).alloc (.cells #[.slice none 0 0, .string (RW.strOf RW.z32), .int .i64 0, .pointer (some ⟨d, 0, none⟩), .bool false] 85)).frozen? ⟨B, 0, none⟩ = false := unfrozen (alloc_old _ _ (alloc_old _ _ hx1))
  obtain ⟨jb, hjb⟩ : ∃ j, j = w1.heap.size + 1 := ⟨_, rfl⟩
  have h3 := hide (show ∀ W3, W3 = ((w1.alloc (.cells (RW.byl RW.z32).toArray 5)).alloc (.cells #[.slice none 0 0, .string (RW.strOf RW.z32), .int .i64 0, .pointer (some ⟨d, 0, none⟩), .bool false] 85)).setCell ⟨B, 0, none⟩ (.pointer (some ⟨jb, 0, none⟩)) → W3.heap[B]? = some (.cells #[.pointer (some ⟨jb, 0, none⟩)] 28 (0, 0)) ∧ W3.heap[B + 1]? = some (.cells #[.int .i64 0] 33 (0, 0)) ∧ W3.heap[jb]? = some (.cells (tpc (.slice none 0 0) (RW.strOf RW.z32) 0 [.pointer (some ⟨d, 0, none⟩), .bool false]) 85 (0, 0)) ∧ Below B w W3 ∧ jb ≤ W3.heap.size from by
    rintro W3 rfl
    have hj : ((w1.alloc (.cells (RW.byl RW.z32).toArray 5)).alloc (.cells #[.slice none 0 0, .string (RW.strOf RW.z32), .int .i64 0, .pointer (some ⟨d, 0, none⟩), .bool false] 85)).heap[jb]? = some (.cells (tpc (.slice none 0 0) (RW.strOf RW.z32) 0 [.pointer (some ⟨d, 0, none⟩), .bool false]) 85 (0, 0)) := by
      rw [hjb, ← alloc_size w1 (.cells (RW.byl RW.z32).toArray 5)]
      exact alloc_at1 _ _
    have hlt := hlt1.out
    refine ⟨heap_setCell_same _ _ _ _ _ _ (alloc_old _ _ (alloc_old _ _ hx1)), (Below.heap_setCell _ _ _ _ (show B + 1 ≠ B by omega)).trans (alloc_old _ _ (alloc_old _ _ hy1)), (Below.heap_setCell _ _ _ _ (show jb ≠ B by omega)).trans hj, ?_, ?_⟩
    · exact (alloc_bel (alloc_bel hB1 (Nat.le_of_eq hBH.out) _) (Nat.le_of_eq hBH.out) _).setCell (p := ⟨B, 0, none⟩) (Nat.le_refl _) _
    · have h5 := (Array.getElem?_eq_some_iff.1 hj).1
      simpa using Nat.le_of_lt h5)
  have hjbl := hide (show B + 1 < jb by have := hlt1.out; omega)
  have hjbH := hide hjb
  clear hx1 hy1 hB1 hjb
  go_upto_region 3 with fail
  rw [← hjbH.out]
  refine gen_w (fun W => W.heap[B]? = some (.cells #[.pointer (some ⟨jb, 0, none⟩)] 28 (0, 0)) ∧ W.heap[B + 1]? = some (.cells #[.int .i64 0] 33 (0, 0)) ∧ W.heap[jb]? = some (.cells (tpc (.slice none 0 0) (RW.strOf RW.z32) 0 [.pointer (some ⟨d, 0, none⟩), .bool false]) 85 (0, 0)) ∧ Below B w W ∧ jb ≤ W.heap.size) (h3.out _ rfl) ?_
  clear h3 hcv c0 f0 hmk hjbH hlt1 hg
  rintro w3 ⟨hx3, hy3, hj3, hB3, hs3⟩
  have c3 : w3.cell? ⟨B, 0, none⟩ = some (.pointer (some ⟨jb, 0, none⟩)) := cellAt hx3 0
  have hL := hide (load_any jb jb [.pointer (some ⟨d, 0, none⟩), .bool false] 85 (by decide) s hs a K ks hks w3 (hKW.out w3 hB3).1 (hKW.out w3 hB3).2 hs3 (Nat.le_refl _) (by have h1 := hglH.out; have h2 := hjbl.out; omega) (by have h1 := hklH.out; have h2 := hjbl.out; omega) hj3)
  have hgW := hide (fun W (hW : Below jb w3 W) => (hKW.out W (hB3.trans (hW.mono (by have := hjbl.out; omega)))).2)
  have hxW := hide (fun W (hW : Below jb w3 W) => (show W.heap[B]? = some (.cells #[.pointer (some ⟨jb, 0, none⟩)] 28 (0, 0)) ∧ W.heap[B + 1]? = some (.cells #[.int .i64 0] 33 (0, 0)) ∧ Below B w W from ⟨(hW.block _ (by have := hjbl.out; omega)).trans hx3, (hW.block _ hjbl.out).trans hy3, hB3.trans (hW.mono (by have := hjbl.out; omega))⟩))
  clear hx3 hy3 hj3 hB3 hs3 hKW hglH hklH
  rcases hG : RW.ldL (RW.sha K) RW.z32 s.data.toList with _ | ⟨qs, m⟩
  · have hL2 := hide (hL.out.mono (fun e w' hh => (show Below jb w3 w' ∧ e = .panicked [{ v := RW.jeW a, recovered := false }] from by
      obtain ⟨h1, h2⟩ := hh
      rcases h2 with ⟨_, h2⟩ | ⟨qs, m, rv, h2, _⟩
      · exact ⟨h1, h2⟩
      · rw [hG] at h2; cases h2)))
    have hGH := hide hG
    clear hL hG
    go_wp2_with (go_at_call 95; refine hL2.out.mono ?_; rintro e w4 ⟨hB4, rfl⟩)
    obtain ⟨hx4, hy4, hB4'⟩ := hxW.out w4 hB4
    refine leaves_cons (f := 94) (args := #[.pointer (some ⟨B, 0, none⟩), .pointer (some ⟨B + 1, 0, none⟩)]) (by simp) (by simp [go_sem]) ?_
    refine (jcatch_panicking B a _ 0 _ (hgW.out w4 hB4) hx4 hy4).mono ?_
    rintro e u' w9 ⟨rfl, rfl, hx9, hy9, hB9⟩
    exact ⟨_, open_results _ _ B _ _ rfl rfl hx9 hy9, hB4'.trans hB9, .inl ⟨hGH.out, rfl⟩⟩
  · obtain ⟨g1, g2, g3, g4, g5⟩ := RW.ldL_sound' (RW.sha K) (RW.sha_len K) hG
    have hL2 := hide (hL.out.mono (fun e w' hh => (show Below jb w3 w' ∧ e = .returned (.tuple #[]) ∧ ∃ rv, TA w' w3 jb jb (.slice none 0 0) rv (RW.strOf (RW.hds (RW.sha K) RW.z32 qs)) m [.pointer (some ⟨d, 0, none⟩), .bool false] 85 qs from by
      obtain ⟨h1, h2⟩ := hh
      rcases h2 with ⟨h2, _⟩ | ⟨qs', m', rv, h2, h3, h4⟩
      · rw [hG] at h2; cases h2
      · rw [hG] at h2
        cases h2
        exact ⟨h1, h3, rv, h4⟩)))
    have hGH := hide hG
    clear hL hG
    go_upto_region 4 with (go_at_call 95; refine hL2.out.mono ?_; rintro e w4 ⟨hB4, rfl, rv, hT4⟩; have hT4H := hide hT4; have hB4H := hide hB4; clear hB4 hT4)
    have hx4 := (hxW.out w4 hB4H.out).1
    have hy4 := (hxW.out w4 hB4H.out).2.1
    have c4 : w4.cell? ⟨B, 0, none⟩ = some (.pointer (some ⟨jb, 0, none⟩)) := cellAt hx4 0
    have f4 : w4.frozen? ⟨B, 0, none⟩ = false := unfrozen hx4
    have c5 : ∀ v, (w4.setCell ⟨B, 0, none⟩ v).cell? ⟨B + 1, 0, none⟩ = some (.int .i64 0) := fun v => cellAt ((Below.heap_setCell _ _ _ _ (show B + 1 ≠ B by omega)).trans hy4) 0
    have f5 : ∀ v, (w4.setCell ⟨B, 0, none⟩ v).frozen? ⟨B + 1, 0, none⟩ = false := fun v => unfrozen ((Below.heap_setCell _ _ _ _ (show B + 1 ≠ B by omega)).trans hy4)
    have hx4H := hide hx4
    have hy4H := hide hy4
    clear c3 hx4 hy4
    go_wp2_with fail
    have h9 : ∀ W9, W9 = (w4.setCell ⟨B, 0, none⟩ (.pointer (some ⟨jb, 0, none⟩))).setCell ⟨B + 1, 0, none⟩ (.int .i64 0) → W9.heap[B]? = some (.cells #[.pointer (some ⟨jb, 0, none⟩)] 28 (0, 0)) ∧ W9.heap[B + 1]? = some (.cells #[.int .i64 0] 33 (0, 0)) ∧ Below B w W9 ∧ JrAt (RW.sha K) W9 B jb d rv qs false := by
      rintro W9 rfl
      have hne := hjbl.out
      have hT := hT4H.out
      refine ⟨(Below.heap_setCell _ _ _ _ (show B ≠ B + 1 by omega)).trans (heap_setCell_same _ _ _ _ _ _ hx4H.out), heap_setCell_same _ _ _ _ _ _ ((Below.heap_setCell _ _ _ _ (show B + 1 ≠ B by omega)).trans hy4H.out), ((hxW.out w4 hB4H.out).2.2.setCell (p := ⟨B, 0, none⟩) (Nat.le_refl _) _).setCell (p := ⟨B + 1, 0, none⟩) (by show B ≤ B + 1; omega) _, ?_, own_mono (own_keep hT.own fun k hk => (Below.heap_setCell _ _ _ _ ?_).trans (Below.heap_setCell _ _ _ _ ?_)) (by omega), by omega⟩
      · rw [g3]
        exact (Below.heap_setCell _ _ _ _ (show jb ≠ B + 1 by omega)).trans ((Below.heap_setCell _ _ _ _ (show jb ≠ B by omega)).trans hT.b)
      · have := (own_blk hT.own hk).1
        show k ≠ B + 1
        omega
      · have := (own_blk hT.own hk).1
        show k ≠ B
        omega
    refine leaves_cons (f := 94) (args := #[.pointer (some ⟨B, 0, none⟩), .pointer (some ⟨B + 1, 0, none⟩)]) (by simp) (by simp [go_sem]) ?_
    refine ((jcatch_idle B _).mono (R' := fun e u' W => e = .returned (.tuple #[]) ∧ u' = .returning ∧ _ = W) (fun _ _ _ h => ⟨h.1, h.2.1, h.2.2.symm⟩)).mono ?_
    rintro e u' w9 ⟨rfl, rfl, rfl⟩
    obtain ⟨q1, q2, q3, q4⟩ := h9 _ rfl
    exact ⟨_, open_results _ _ B _ _ rfl rfl q1 q2, q3, .inr ⟨qs, m, jb, rv, hGH.out, rfl, q4⟩⟩
end Go.Proofs.YtllbphanfahkkaaGreatDoor

/-
  Package journal: first, writing and its closure, Room, Records: what they return, what they change.
-/
namespace Go.Proofs.YtllbphanfahkkaaGreatDoor
open Go.RowKit RG
/-- what a call on a disk leaves: a block of another type -/
theorem tch_keep {W W' : World} {B b n db vb k : Nat} {pv : Value} {S : RW.Dk} {c : Array Value} {t : TypeId} {fr : Nat × Nat} (h : W.heap[k]? = some (.cells c t fr)) (hd : DiskAt W B b n db vb pv S) (hT : Tch b db vb W W') (ht : t ≠ 108 ∧ t ≠ 5 ∧ t ≠ 103) : W'.heap[k]? = some (.cells c t fr) :=
  (hT.block k (Array.getElem?_eq_some_iff.1 h).1 (blocks_ne h hd.row ht.1) (blocks_ne h hd.dur ht.2.1) (blocks_ne h hd.vis ht.2.1) (fun c f hc => blocks_ne h hc ht.2.2 rfl)).trans h
theorem JrAt.tch {H : List UInt8 → List UInt8} {W W' : World} {B B' b n db vb jb d : Nat} {pv rv : Value} {S : RW.Dk} {rs : List ByteArray} {br : Bool} (h : JrAt H W B' jb d rv rs br) (hd : DiskAt W B b n db vb pv S) (hT : Tch b db vb W W') : JrAt H W' B' jb d rv rs br :=
  ⟨tch_keep h.b hd hT (by decide), own_keep h.own fun g hg => by
    obtain ⟨_, _, c, fr, hc⟩ := own_blk h.own hg
    exact (tch_keep hc hd hT (by decide)).trans hc.symm, h.hb⟩
theorem JrAt.next {H : List UInt8 → List UInt8} {W W' : World} {B jb d : Nat} {rv : Value} {rs : List ByteArray} {br : Bool} (h : JrAt H W B jb d rv rs br) (hB : Below W.heap.size W W') : JrAt H W' B jb d rv rs br :=
  ⟨(hB.block _ (Array.getElem?_eq_some_iff.1 h.b).1).trans h.b, own_keep h.own fun g hg => hB.block _ (own_blk h.own hg).2.1, h.hb⟩
theorem JrAt.mono {H : List UInt8 → List UInt8} {W : World} {B B' jb d : Nat} {rv : Value} {rs : List ByteArray} {br : Bool} (h : JrAt H W B jb d rv rs br) (hb : B' ≤ B) : JrAt H W B' jb d rv rs br := ⟨h.b, own_mono h.own hb, Nat.le_trans hb h.hb⟩
theorem JrAt.lt {H : List UInt8 → List UInt8} {W : World} {B jb d : Nat} {rv : Value} {rs : List ByteArray} {br : Bool} (h : JrAt H W B jb d rv rs br) : jb < W.heap.size := (Array.getElem?_eq_some_iff.1 h.b).1
theorem tpc_get {rv : Value} {h : ByteArray} {n : Nat} {rest : List Value} (i : Nat) : (tpc rv h n rest)[3 + i]? = rest[i]? := by simp [tpc, Nat.add_comm 3 i]
theorem JrAt.disk {H : List UInt8 → List UInt8} {W : World} {B jb d : Nat} {rv : Value} {rs : List ByteArray} {br : Bool} (h : JrAt H W B jb d rv rs br) : W.cell? ⟨jb, 3, none⟩ = some (.pointer (some ⟨d, 0, none⟩)) := cell_of h.b (tpc_get 0)
theorem JrAt.brk {H : List UInt8 → List UInt8} {W : World} {B jb d : Nat} {rv : Value} {rs : List ByteArray} {br : Bool} (h : JrAt H W B jb d rv rs br) : W.cell? ⟨jb, 4, none⟩ = some (.bool br) := cell_of h.b (tpc_get 1)
set_option maxRecDepth 10000 in
set_option maxHeartbeats 2000000 in
/-- the calls of a list, up to the first error -/
theorem first_any (fs : List Value) (hfs : fs.length ≤ 100) (g : Nat) (I : Nat → World → Prop) (E : Int → World → Prop) (hcell : ∀ j W, I j W → W.heap[g]? = some (.cells fs.toArray 96 (0, 0)))
    (hcall : ∀ j f, fs[j]? = some f → ∃ k fst cap, f = .func (.func k) fst cap ∧ (∀ args w, (callFunc k args).run Tryz.prog w = .ok (.enter k args) w) ∧ ∀ W, I j W → Calls Tryz.prog k (fst ++ cap) W fun e W' => ∃ n : Int, e = .returned (.int .i64 n) ∧ ((n ≠ 0 ∧ E n W') ∨ (n = 0 ∧ I (j + 1) W'))) (w : World) (h0 : I 0 w) :
    Calls Tryz.prog 45 #[.slice (some ⟨g, 0, none⟩) fs.length fs.length] w fun e w' => (∃ n : Int, e = .returned (.int .i64 n) ∧ n ≠ 0 ∧ E n w') ∨ (e = .returned (.int .i64 0) ∧ I fs.length w') := by
  have hcellH := hide hcell
  have hcallH := hide hcall
  have h0H := hide h0
  obtain ⟨m, hm⟩ : ∃ m, m = fs.length := ⟨_, rfl⟩
  have hmH := hide hm
  rw [← hm] at hfs ⊢
  clear hcell hcall h0 hm
  go_enter Tryz.func45, Tryz.ntmps45
  go_wp2
  go_loopw [8] (fun i wr => ∃ (j : Nat), i = .int .i64 j ∧ j ≤ m ∧ Hid (I j wr)) (fun i _ => m - (intOf i).toNat)
  case atStart => exact ⟨0, rfl, Nat.zero_le _, h0H.out⟩
  case round =>
    obtain ⟨j, rfl, hj, hQ⟩ := hrel
    obtain ⟨wo, hwo⟩ : ∃ wo, wo = wr := ⟨_, rfl⟩
    subst hwo
    have hI := hide hQ.out
    clear hQ h0H
    by_cases hjm : j < m
    · obtain ⟨f, hf⟩ : ∃ f, fs[j]? = some f := ⟨_, List.getElem?_eq_getElem (by rw [← hmH.out]; exact hjm)⟩
      obtain ⟨k, fst, cap, rfl, hk, hc⟩ := hcallH.out j f hf
      have hcj := hide (hc wo hI.out)
      have c0 : wo.cell? ⟨g, j, none⟩ = some (.func (.func k) fst cap) := cell_of (hcellH.out j wo hI.out) (by rw [List.getElem?_toArray]; exact hf)
      have hkk := hk (fst ++ cap)
      clear hf hc hk
      go_wp2_with (refine hcj.out.mono ?_; rintro e w1 ⟨n, rfl, hn⟩)
      · rename_i hne
        have h1 : n ≠ 0 := by simpa using hne
        have h2 := hide (hn.resolve_right (fun h => h1 h.1)).2
        clear hn hne
        go_ret
        exact .inl ⟨n, rfl, h1, h2.out⟩
      · rename_i hne
        have h1 : n = 0 := by simpa using hne
        refine ⟨⟨j + 1, by go_num, by omega, (hn.resolve_left (fun h => h.1 h1)).2⟩, by simp [intOf]; omega⟩
    · obtain rfl : m = j := by omega
      go_wp2
      go_ret
      exact .inr ⟨rfl, hI.out⟩
theorem writing_any (jb : Nat) (at_ : Int) (s : ByteArray) (w : World) :
    Calls Tryz.prog 46 #[.pointer (some ⟨jb, 0, none⟩), .int .i64 at_, .string s] w fun e w' => e = .returned (.func (.func 90) #[] #[.pointer (some ⟨w.heap.size, 0, none⟩), .pointer (some ⟨w.heap.size + 1, 0, none⟩), .pointer (some ⟨w.heap.size + 2, 0, none⟩)]) ∧ w' = ((w.alloc (.cells #[.pointer (some ⟨jb, 0, none⟩)] 28)).alloc (.cells #[.int .i64 at_] 3)).alloc (.cells #[.string s] 9) := by
  go_enter Tryz.func46, Tryz.ntmps46
  go_wp2
  go_ret
  exact ⟨rfl, rfl⟩
/-- what the closure of writing holds -/
structure WrC (W : World) (p jb : Nat) (at_ : Int) (s : ByteArray) : Prop where
  j : W.heap[p]? = some (.cells #[.pointer (some ⟨jb, 0, none⟩)] 28 (0, 0))
  a : W.heap[p + 1]? = some (.cells #[.int .i64 at_] 3 (0, 0))
  s : W.heap[p + 2]? = some (.cells #[.string s] 9 (0, 0))
theorem WrC.new (w : World) (jb : Nat) (at_ : Int) (s : ByteArray) : WrC (((w.alloc (.cells #[.pointer (some ⟨jb, 0, none⟩)] 28)).alloc (.cells #[.int .i64 at_] 3)).alloc (.cells #[.string s] 9)) w.heap.size jb at_ s ∧ Below w.heap.size w (((w.alloc (.cells #[.pointer (some ⟨jb, 0, none⟩)] 28)).alloc (.cells #[.int .i64 at_] 3)).alloc (.cells #[.string s] 9)) := by
  refine ⟨⟨alloc_old _ _ (alloc_old _ _ (alloc_at1 _ _)), ?_, ?_⟩, alloc_bel (alloc_bel (alloc_bel (Below.refl _ _) (Nat.le_refl _) _) (Nat.le_refl _) _) (Nat.le_refl _) _⟩
  · have h := alloc_old ((w.alloc (.cells #[.pointer (some ⟨jb, 0, none⟩)] 28)).alloc (.cells #[.int .i64 at_] 3)) (.cells #[.string s] 9) (alloc_at1 (w.alloc (.cells #[.pointer (some ⟨jb, 0, none⟩)] 28)) (.cells #[.int .i64 at_] 3))
    rwa [alloc_size] at h
  · have h := alloc_at1 ((w.alloc (.cells #[.pointer (some ⟨jb, 0, none⟩)] 28)).alloc (.cells #[.int .i64 at_] 3)) (.cells #[.string s] 9)
    rwa [alloc_size, alloc_size] at h
theorem WrC.next {W W' : World} {p jb : Nat} {at_ : Int} {s : ByteArray} (h : WrC W p jb at_ s) (hB : Below W.heap.size W W') : WrC W' p jb at_ s :=
  ⟨(hB.block _ (Array.getElem?_eq_some_iff.1 h.j).1).trans h.j, (hB.block _ (Array.getElem?_eq_some_iff.1 h.a).1).trans h.a, (hB.block _ (Array.getElem?_eq_some_iff.1 h.s).1).trans h.s⟩
theorem WrC.tch {W W' : World} {B b n db vb p jb : Nat} {pv : Value} {S : RW.Dk} {at_ : Int} {s : ByteArray} (h : WrC W p jb at_ s) (hd : DiskAt W B b n db vb pv S) (hT : Tch b db vb W W') : WrC W' p jb at_ s :=
  ⟨tch_keep h.j hd hT (by decide), tch_keep h.a hd hT (by decide), tch_keep h.s hd hT (by decide)⟩
section
variable {ev : Operand → Value} {o : Oper} {x y : Operand} {w : World}
theorem op_subj {m n r : Int} (ho : o.op = .binOp .sub 3 x y 3) (hx : ev x = .int .i64 m) (hy : ev y = .int .i64 n) (h : m - n = r) (hb : -9223372036854775808 ≤ r ∧ r ≤ 9223372036854775807) : (execOp ev o).run Tryz.prog w = .ok (.value (.int .i64 r)) w := by
  unfold execOp
  rw [ho]
  simp only [hx, hy]
  go_simp
  rw [IntKind.wrap_i64]
  omega
end
theorem cf_write : ∀ args w, (callFunc 14 args).run Tryz.prog w = .ok (.enter 14 args) w := fun args w => by go_simp
theorem cf_size : ∀ args w, (callFunc 56 args).run Tryz.prog w = .ok (.enter 56 args) w := fun args w => by go_simp
theorem ptr_ldj {W : World} {g i : Nat} {p : Option Addr} (h : W.cell? ⟨g, i, none⟩ = some (.pointer p)) : (ldRow 28 (.pointer (some ⟨g, i, none⟩))).run Tryz.prog W = .ok (.pointer p) W := by
  unfold ldRow
  go_simp
theorem ptr_ldd {W : World} {g i : Nat} {p : Option Addr} (h : W.cell? ⟨g, i, none⟩ = some (.pointer p)) : (ldRow 27 (.pointer (some ⟨g, i, none⟩))).run Tryz.prog W = .ok (.pointer p) W := by
  unfold ldRow
  go_simp
theorem jint_ld {W : World} {g i : Nat} {n : Int} (h : W.cell? ⟨g, i, none⟩ = some (.int .i64 n)) : (ldRow 3 (.pointer (some ⟨g, i, none⟩))).run Tryz.prog W = .ok (.int .i64 n) W := by
  unfold ldRow
  go_simp
theorem fa_jd {b : Nat} (W : World) : (Instr.fieldAt 85 (.pointer (some ⟨b, 0, none⟩)) 1).run Tryz.prog W = .ok (.pointer (some ⟨b, 3, none⟩)) W := by
  go_simp
theorem fa_jt {b : Nat} (W : World) : (Instr.fieldAt 85 (.pointer (some ⟨b, 0, none⟩)) 0).run Tryz.prog W = .ok (.pointer (some ⟨b, 0, none⟩)) W := by
  go_simp
theorem fa_tp2 {b : Nat} (W : World) : (Instr.fieldAt 83 (.pointer (some ⟨b, 0, none⟩)) 2).run Tryz.prog W = .ok (.pointer (some ⟨b, 2, none⟩)) W := by
  go_simp
theorem DiskAt.drew {W : World} {B b n db vb : Nat} {pv : Value} {S : RW.Dk} (h : DiskAt W B b n db vb pv S) : DiskAt W.drew B b n db vb pv S := h.next (Below.refl _ _).drew
set_option maxRecDepth 10000 in
set_option maxHeartbeats 2000000 in
theorem writing1_any {H : List UInt8 → List UInt8} (B b n db vb p jb : Nat) (pv rv : Value) (S : RW.Dk) (rs : List ByteArray) (br : Bool) (at_ : Int) (s : ByteArray) (w : World) (hd : DiskAt w B b n db vb pv S) (hj : JrAt H w B jb b rv rs br) (hw : WrC w p jb at_ s) (hp : S.pend.length < 1000000) (hs : s.size ≤ 9223372036854775807) :
    Calls Tryz.prog 90 #[.pointer (some ⟨p, 0, none⟩), .pointer (some ⟨p + 1, 0, none⟩), .pointer (some ⟨p + 2, 0, none⟩)] w fun e w' => e = .returned (.int .i64 (S.write n at_ s).1) ∧ ∃ pv', DiskAt w' B b n db vb pv' (S.write n at_ s).2 ∧ Tch b db vb w w' ∧ Below B w w' := by
  have h0 := hide (And.intro hd (And.intro hj hw))
  have hWr := hide (fun W (hD : DiskAt W B b n db vb pv S) => write_any B b n db vb pv S at_ s W hD hp hs)
  obtain ⟨E, hE⟩ : ∃ x, x = S.write n at_ s := ⟨_, rfl⟩
  rw [← hE] at hWr ⊢
  have hn0 : w.heap.size = w.heap.size := rfl
  clear hd hj hw hE hn0
  go_enter Tryz.func90, Tryz.ntmps90
  go_upto_region 1 with fail
  refine wp_region_k (fun h W => 6 ∈ h ∨ W = w.drew) (fun _ => True) [6] (.op 0 (.op 1 (.op 2 (.op 3 (.op 4 (.op 5 (.op 6 (.op 7 .nil)))))))) (by kernel_rfl) (by kernel_rfl) (by rfl) (by kernel_rfl) (.inr rfl) trivial ?_
  refine k_bef 6 (.pointer (some ⟨jb, 0, none⟩)) (by apply opN; repeat' (first | apply OpAt.z | apply OpAt.s)) (by rfl) (by rfl) (by decide +kernel) (by rfl) (fun _ W hg hS => by obtain rfl := hS.resolve_left hg; exact op_ld rfl rfl (ptr_ldj (show w.drew.cell? ⟨p, 0, none⟩ = _ from cellAt h0.out.2.2.j 0))) ?_
  simp only [Act.put, List.setIfInBounds_toArray, List.set_cons_zero, List.set_cons_succ]
  refine k_val (.pointer (some ⟨jb, 0, none⟩)) (by apply opN; repeat' (first | apply OpAt.z | apply OpAt.s)) (by rfl) (by rfl) (fun _ W hS => op_nc rfl rfl) ?_
  simp only [Act.put, List.setIfInBounds_toArray, List.set_cons_zero, List.set_cons_succ]
  refine k_val (.pointer (some ⟨jb, 3, none⟩)) (by apply opN; repeat' (first | apply OpAt.z | apply OpAt.s)) (by rfl) (by rfl) (fun _ W hS => op_fa rfl rfl (fa_jd W)) ?_
  simp only [Act.put, List.setIfInBounds_toArray, List.set_cons_zero, List.set_cons_succ]
  refine k_bef 6 (.pointer (some ⟨b, 0, none⟩)) (by apply opN; repeat' (first | apply OpAt.z | apply OpAt.s)) (by rfl) (by rfl) (by decide +kernel) (by rfl) (fun _ W hg hS => by obtain rfl := hS.resolve_left hg; exact op_ld rfl rfl (ptr_ldd (show w.drew.cell? ⟨jb, 3, none⟩ = _ from h0.out.2.1.disk))) ?_
  simp only [Act.put, List.setIfInBounds_toArray, List.set_cons_zero, List.set_cons_succ]
  refine k_bef 6 (.int .i64 at_) (by apply opN; repeat' (first | apply OpAt.z | apply OpAt.s)) (by rfl) (by rfl) (by decide +kernel) (by rfl) (fun _ W hg hS => by obtain rfl := hS.resolve_left hg; exact op_ld rfl rfl (jint_ld (show w.drew.cell? ⟨p + 1, 0, none⟩ = _ from cellAt h0.out.2.2.a 0))) ?_
  simp only [Act.put, List.setIfInBounds_toArray, List.set_cons_zero, List.set_cons_succ]
  refine k_bef 6 (.string s) (by apply opN; repeat' (first | apply OpAt.z | apply OpAt.s)) (by rfl) (by rfl) (by decide +kernel) (by rfl) (fun _ W hg hS => by obtain rfl := hS.resolve_left hg; exact op_ld rfl rfl (str_ld (show w.drew.cell? ⟨p + 2, 0, none⟩ = _ from cellAt h0.out.2.2.s 0))) ?_
  simp only [Act.put, List.setIfInBounds_toArray, List.set_cons_zero, List.set_cons_succ]
  refine k_step (fun K' u => u = .int .i64 E.1 ∧ K' = fun W => ∃ pv', DiskAt W B b n db vb pv' E.2 ∧ Tch b db vb w W ∧ Below B w W) (by apply opN; repeat' (first | apply OpAt.z | apply OpAt.s)) (by rfl) (by rfl) (by rfl) (fun W hCW hK => ?_) ?_
  · obtain rfl := hCW.resolve_left (by decide)
    refine op_x3 rfl rfl rfl rfl rfl cf_write ?_
    refine (hWr.out _ h0.out.1.drew).mono ?_
    rintro e W' ⟨rfl, pv', h4, h5, h6⟩
    exact ⟨_, rfl, .inl (by decide), _, ⟨pv', h4, (Tch.of_below (Below.refl _ _).drew).trans h5, (Below.refl _ _).drew.trans h6⟩, rfl, rfl⟩
  rintro _ _ ⟨rfl, rfl⟩
  simp only [Act.put, List.setIfInBounds_toArray, List.set_cons_zero, List.set_cons_succ]
  refine k_val (.int .i64 E.1) (by apply opN; repeat' (first | apply OpAt.z | apply OpAt.s)) (by rfl) (by rfl) (fun _ W hS => op_asg rfl rfl) ?_
  simp only [Act.put, List.setIfInBounds_toArray, List.set_cons_zero, List.set_cons_succ]
  refine k_nil ?_
  intro W hCW hK
  have hF := hide hK
  clear hCW hK
  go_wp2
  go_ret
  exact ⟨rfl, hF.out⟩
set_option maxRecDepth 10000 in
set_option maxHeartbeats 2000000 in
theorem room_any {H : List UInt8 → List UInt8} (B b n db vb jb : Nat) (pv rv : Value) (S : RW.Dk) (rs : List ByteArray) (br : Bool) (hn : (RW.stos H RW.z32 rs).length ≤ 1000000000) (w : World) (hd : DiskAt w B b n db vb pv S) (hj : JrAt H w B jb b rv rs br) :
    Calls Tryz.prog 21 #[.pointer (some ⟨jb, 0, none⟩)] w fun e w' => e = .returned (.int .i64 ((n : Int) - ((RW.stos H RW.z32 rs).length : Int))) ∧ ∃ k, w' = w.drewN k := by
  have c3 := hide (fun k => (show (w.drewN k).cell? ⟨jb, 3, none⟩ = some (.pointer (some ⟨b, 0, none⟩)) from hj.disk))
  have c2 := hide (fun k => (show (w.drewN k).cell? ⟨jb, 2, none⟩ = some (.int .i64 ((RW.stos H RW.z32 rs).length : Int)) from cell_of hj.b (tpc2 _ _ _ _)))
  have hSz := hide (fun k => size_any (w.drewN k) (show DiskAt (w.drewN k) B b n db vb pv S from hd.next ⟨rfl, rfl, rfl, Nat.le_refl _, fun _ _ => rfl⟩))
  have hnn := hd.hn
  obtain ⟨L, hL⟩ : ∃ L, L = (RW.stos H RW.z32 rs).length := ⟨_, rfl⟩
  rw [← hL] at c2 hn ⊢
  clear hL hd hj
  go_enter Tryz.func21, Tryz.ntmps21
  go_upto_region 3 with fail
  refine wp_region_k (fun _ W => ∃ k, W = w.drewN k) (fun _ => True) [4] (.op 0 (.op 1 (.op 2 (.op 3 (.op 5 (.op 6 (.op 7 (.op 8 (.op 9 (.op 4 (.op 10 (.op 11 .nil)))))))))))) (by kernel_rfl) (by kernel_rfl) (by rfl) (by kernel_rfl) ⟨1, rfl⟩ trivial ?_
  refine k_val (.pointer (some ⟨jb, 0, none⟩)) (by apply opN; repeat' (first | apply OpAt.z | apply OpAt.s)) (by rfl) (by rfl) (fun _ W hS => op_mv rfl rfl) ?_
  simp only [Act.put, List.setIfInBounds_toArray, List.set_cons_zero, List.set_cons_succ]
  refine k_val (.pointer (some ⟨jb, 0, none⟩)) (by apply opN; repeat' (first | apply OpAt.z | apply OpAt.s)) (by rfl) (by rfl) (fun _ W hS => op_nc rfl rfl) ?_
  simp only [Act.put, List.setIfInBounds_toArray, List.set_cons_zero, List.set_cons_succ]
  refine k_val (.pointer (some ⟨jb, 3, none⟩)) (by apply opN; repeat' (first | apply OpAt.z | apply OpAt.s)) (by rfl) (by rfl) (fun _ W hS => op_fa rfl rfl (fa_jd W)) ?_
  simp only [Act.put, List.setIfInBounds_toArray, List.set_cons_zero, List.set_cons_succ]
  refine k_val (.pointer (some ⟨b, 0, none⟩)) (by apply opN; repeat' (first | apply OpAt.z | apply OpAt.s)) (by rfl) (by rfl) (fun _ W hS => op_ld rfl rfl (ptr_ldd (W := W) (by obtain ⟨k, rfl⟩ := hS; exact c3.out k))) ?_
  simp only [Act.put, List.setIfInBounds_toArray, List.set_cons_zero, List.set_cons_succ]
  refine k_val (.pointer (some ⟨jb, 0, none⟩)) (by apply opN; repeat' (first | apply OpAt.z | apply OpAt.s)) (by rfl) (by rfl) (fun _ W hS => op_mv rfl rfl) ?_
  simp only [Act.put, List.setIfInBounds_toArray, List.set_cons_zero, List.set_cons_succ]
  refine k_val (.pointer (some ⟨jb, 0, none⟩)) (by apply opN; repeat' (first | apply OpAt.z | apply OpAt.s)) (by rfl) (by rfl) (fun _ W hS => op_nc rfl rfl) ?_
  simp only [Act.put, List.setIfInBounds_toArray, List.set_cons_zero, List.set_cons_succ]
  refine k_val (.pointer (some ⟨jb, 0, none⟩)) (by apply opN; repeat' (first | apply OpAt.z | apply OpAt.s)) (by rfl) (by rfl) (fun _ W hS => op_fa rfl rfl (fa_jt W)) ?_
  simp only [Act.put, List.setIfInBounds_toArray, List.set_cons_zero, List.set_cons_succ]
  refine k_val (.pointer (some ⟨jb, 2, none⟩)) (by apply opN; repeat' (first | apply OpAt.z | apply OpAt.s)) (by rfl) (by rfl) (fun _ W hS => op_fa rfl rfl (fa_tp2 W)) ?_
  simp only [Act.put, List.setIfInBounds_toArray, List.set_cons_zero, List.set_cons_succ]
  refine k_val (.int .i64 (L : Int)) (by apply opN; repeat' (first | apply OpAt.z | apply OpAt.s)) (by rfl) (by rfl) (fun _ W hS => op_ld rfl rfl (jint_ld (W := W) (by obtain ⟨k, rfl⟩ := hS; exact c2.out k))) ?_
  simp only [Act.put, List.setIfInBounds_toArray, List.set_cons_zero, List.set_cons_succ]
  refine k_step (fun K' u => u = .int .i64 (n : Int) ∧ K' = fun _ => True) (by apply opN; repeat' (first | apply OpAt.z | apply OpAt.s)) (by rfl) (by rfl) (by rfl) (fun W hCW hK => ?_) ?_
  · obtain ⟨k, rfl⟩ := hCW
    refine op_x1 rfl rfl rfl cf_size ?_
    refine (hSz.out k).mono ?_
    rintro e W' ⟨rfl, rfl⟩
    exact ⟨_, rfl, ⟨k, rfl⟩, _, trivial, rfl, rfl⟩
  rintro _ _ ⟨rfl, rfl⟩
  simp only [Act.put, List.setIfInBounds_toArray, List.set_cons_zero, List.set_cons_succ]
  refine k_val (.int .i64 ((n : Int) - (L : Int))) (by apply opN; repeat' (first | apply OpAt.z | apply OpAt.s)) (by rfl) (by rfl) (fun _ W hS => op_subj rfl rfl rfl rfl (by omega)) ?_
  simp only [Act.put, List.setIfInBounds_toArray, List.set_cons_zero, List.set_cons_succ]
  refine k_val (.int .i64 ((n : Int) - (L : Int))) (by apply opN; repeat' (first | apply OpAt.z | apply OpAt.s)) (by rfl) (by rfl) (fun _ W hS => op_asg rfl rfl) ?_
  simp only [Act.put, List.setIfInBounds_toArray, List.set_cons_zero, List.set_cons_succ]
  refine k_nil ?_
  intro W hCW _
  go_wp2
  go_ret
  exact ⟨rfl, hCW⟩
theorem room_nil (w : World) : Calls Tryz.prog 21 #[.pointer none] w fun e w' => e = .returned (.int .i64 0) ∧ w = w' := by
  go_enter Tryz.func21, Tryz.ntmps21
  go_wp2
  go_ret
  exact ⟨rfl, rfl⟩
theorem records_nil (w : World) : Calls Tryz.prog 20 #[.pointer none] w fun e w' => e = .returned (.slice none 0 0) ∧ w = w' := by
  go_enter Tryz.func20, Tryz.ntmps20
  go_wp2
  go_ret
  exact ⟨rfl, rfl⟩
theorem strs_own {W : World} {B : Nat} {v : Value} {l : List ByteArray} (h : StrsOwn W B v l) : StrR W v l := by
  have h' : W.ownsRow B 9 1 v l.length (rowCells (fun s => [Value.string s]) l) := by
    have e : rowCells (fun s => [Value.string s]) l = l.map Value.string := by
      unfold rowCells
      clear h
      induction l with
      | nil => rfl
      | cons x l ih => simp [List.flatMap_cons, ih]
    rw [e]
    exact h
  exact rowV_own (enc := fun s => [Value.string s]) (fun _ => rfl) (by decide) h'
/-- slices.Clone of a list of strings -/
theorem clone_any {W : World} {v : Value} {l : List ByteArray} (h : StrR W v l) (hl : l.length ≤ 5000000) : Calls Tryz.prog 41 #[v] W fun e w' => ∃ u, e = .returned u ∧ StrsOwn w' W.heap.size u l ∧ Below W.heap.size W w' := by
  obtain ⟨a, c, rfl, _, hr⟩ := h
  cases a with
  | none =>
    obtain rfl : l = [] := by
      rcases hr with e | ⟨b, o, e, _⟩
      · exact e
      · cases e
    refine (SH.slices_Clone_string_nil 0 c W).mono ?_
    rintro e w' ⟨rfl, rfl⟩
    exact ⟨_, rfl, ⟨rfl, .inl ⟨rfl, rfl⟩⟩, Below.refl _ _⟩
  | some ad =>
    rcases hr with rfl | ⟨b, o, e, _, hc⟩
    · refine (SH.slices_Clone_string_zero ad c W).mono ?_
      rintro e w' ⟨v', rfl, h1, _, h3⟩
      exact ⟨_, rfl, h1, h3⟩
    · cases e
      refine (SH.slices_Clone_string b o l.length c l W (Nat.le_refl _) (by omega) (fun j hj => ?_)).mono ?_
      · have e1 := hc j _ (List.getElem?_eq_getElem hj) 0 _ rfl
        rw [Nat.mul_one, Nat.add_zero] at e1
        rw [e1, List.getD_eq_getElem?_getD, List.getElem?_eq_getElem hj]
        rfl
      · rintro e w' ⟨v', rfl, h1, _, h3⟩
        rw [List.take_length] at h1
        exact ⟨_, rfl, h1, h3⟩
set_option maxRecDepth 10000 in
theorem records_any {H : List UInt8 → List UInt8} (B d jb : Nat) (rv : Value) (rs : List ByteArray) (br : Bool) (hl : rs.length ≤ 5000000) (w : World) (hj : JrAt H w B jb d rv rs br) :
    Calls Tryz.prog 20 #[.pointer (some ⟨jb, 0, none⟩)] w fun e w' => ∃ u, e = .returned u ∧ StrsOwn w' w.heap.size u rs ∧ Below w.heap.size w w' := by
  have hC := hide (clone_any (strs_own hj.own) hl)
  obtain ⟨a, c, rfl⟩ := own_shape hj.own
  have c0 : w.cell? ⟨jb, 0, none⟩ = some (.slice a rs.length c) := cell_of hj.b (tpc0 _ _ _ _)
  clear hj
  go_enter Tryz.func20, Tryz.ntmps20
  go_wp2_with (go_at_call 41; refine hC.out.mono ?_; rintro e w1 ⟨u, rfl, h1, h2⟩; have h1H := hide h1; have h2H := hide h2; clear h1 h2)
  go_ret
  exact ⟨_, rfl, h1H.out, h2H.out⟩
end Go.Proofs.YtllbphanfahkkaaGreatDoor

/-
  Package journal: tape.add: what it returns, what it writes.
-/
import Derived.Test.YtllbphanfahkkaaGreatDoorJn1
import Derived.Maps.AppendAt
namespace Go.Proofs.YtllbphanfahkkaaGreatDoor
open Go.RowKit RG
/-- a tape's cells, and what lies behind them -/
def tpc (rv : Value) (h : ByteArray) (n : Nat) (rest : List Value) : Array Value := (rv :: .string h :: .int .i64 (n : Int) :: rest).toArray
theorem tpc0 (rv : Value) (h : ByteArray) (n : Nat) (rest : List Value) : (tpc rv h n rest)[0]? = some rv := by simp [tpc]
theorem tpc1 (rv : Value) (h : ByteArray) (n : Nat) (rest : List Value) : (tpc rv h n rest)[1]? = some (.string h) := by simp [tpc]
theorem tpc2 (rv : Value) (h : ByteArray) (n : Nat) (rest : List Value) : (tpc rv h n rest)[2]? = some (.int .i64 (n : Int)) := by simp [tpc]
theorem tpc_set0 (rv u : Value) (h : ByteArray) (n : Nat) (rest : List Value) : (tpc rv h n rest).setIfInBounds 0 u = tpc u h n rest := by simp [tpc]
theorem tpc_set1 (rv : Value) (h h' : ByteArray) (n : Nat) (rest : List Value) : (tpc rv h n rest).setIfInBounds 1 (.string h') = tpc rv h' n rest := by simp [tpc]
theorem tpc_set2 (rv : Value) (h : ByteArray) (n n' : Nat) (rest : List Value) : (tpc rv h n rest).setIfInBounds 2 (.int .i64 (n' : Int)) = tpc rv h n' rest := by simp [tpc]
theorem str_info : (Tryz.prog.info? 9).map (fun i => (i.zero, i.size, i.bytes)) = some (some (.string ⟨#[]⟩), 1, 16) := by kernel_rfl
/-- a row of strings of the call's own -/
abbrev StrsOwn (W : World) (B : Nat) (v : Value) (l : List ByteArray) : Prop := W.ownsRow B 9 1 v l.length (l.map Value.string)
theorem own_blk {W : World} {B : Nat} {e : TypeId} {k n : Nat} {v : Value} {xs : List Value} (h : W.ownsRow B e k v n xs) {g : Nat} (hg : v.ownBlock = some g) : B ≤ g ∧ g < W.heap.size ∧ ∃ c fr, W.heap[g]? = some (.cells c e fr) := by
  rcases h.2 with ⟨rfl, _⟩ | ⟨g', cap, cur, rfl, h2, h3, _⟩
  · cases hg
  · cases hg
    exact ⟨h2, (Array.getElem?_eq_some_iff.1 h3).1, cur, _, h3⟩
theorem own_shape {W : World} {B : Nat} {e : TypeId} {k n : Nat} {v : Value} {xs : List Value} (h : W.ownsRow B e k v n xs) : ∃ a c, v = .slice a n c := by
  rcases h.2 with ⟨rfl, h0⟩ | ⟨g, cap, cur, rfl, _⟩
  · exact ⟨none, 0, by rw [h0]⟩
  · exact ⟨_, _, rfl⟩
theorem run_app_str {W : World} {B : Nat} {v : Value} {l : List ByteArray} (r : ByteArray) (hown : StrsOwn W B v l) (hB : B ≤ W.heap.size) (hl : l.length ≤ 5000000) :
    ∃ v' W', (Builtin.append_ #[22, 22] 22 #[v, .slice (some ⟨W.heap.size, 0, none⟩) 1 1]).run Tryz.prog (W.alloc (.cells #[.string r] 9)) = .ok v' W' ∧ StrsOwn W' B v' (l ++ [r]) ∧ ChgS (fun j => v.ownBlock = some j) W W' ∧ (v'.ownBlock = v.ownBlock ∨ ∃ g, v'.ownBlock = some g ∧ W.heap.size ≤ g) := by
  obtain ⟨i0, hi, hz0, hz1, hz2⟩ := info_parts str_info
  have hA := alloc_bel (Below.refl W.heap.size W) (Nat.le_refl _) (.cells #[.string r] 9)
  have hg := alloc_at1 W (.cells #[.string r] 9)
  have h1 : StrsOwn (W.alloc (.cells #[.string r] 9)) B v l := own_keep hown fun g hg' => hA.block _ (own_blk hown hg').2.1
  obtain ⟨v', W', hr, ho, hgr, _, hb⟩ := run_append_own_at (P := Tryz.prog) (w := W.alloc (.cells #[.string r] 9)) B 22 22 9 i0 (.string ⟨#[]⟩) 1 16 Tryz.underlying22 hi hz0 hz1 hz2 (by rfl) (by decide) v l.length (l.map Value.string) h1 ⟨W.heap.size, 0, none⟩ 1 1 [.string r] rfl (fun j q hj => by
    have e := cellAt hg j
    rw [show (⟨W.heap.size, 0, none⟩ : Addr).add j = ⟨W.heap.size, j, none⟩ by rw [Addr.add_mid, Nat.zero_add], e]
    simpa using hj) (fun u hu => by simp at hu; subst hu; rfl) (by unfold maxLen; omega) (by omega) (Nat.le_trans hB hA.size)
  refine ⟨v', W', hr, by rw [StrsOwn, List.length_append, List.map_append]; exact ho, ⟨hgr.os, hgr.tape, hgr.output, Nat.le_trans hA.size hgr.size, fun k hk hn => (hgr.block k (Nat.lt_of_lt_of_le hk hA.size) fun e => hn e.symm).trans (hA.block k hk)⟩, hb.imp id fun h => ⟨_, h, by rw [alloc_size]; omega⟩⟩
/-- a tape in a block, and what has turned since the world w -/
structure TA (W w : World) (B tb : Nat) (rv0 rv : Value) (hd : ByteArray) (n : Nat) (rest : List Value) (T : TypeId) (rs : List ByteArray) : Prop where
  b : W.heap[tb]? = some (.cells (tpc rv hd n rest) T (0, 0))
  own : StrsOwn W B rv rs
  ch : ChgS (fun j => j = tb ∨ rv0.ownBlock = some j) w W
  ob : rv.ownBlock = rv0.ownBlock ∨ ∃ g, rv.ownBlock = some g ∧ w.heap.size ≤ g
section
variable {W W' w : World} {B tb : Nat} {rv0 rv u : Value} {hd hd' : ByteArray} {n n' : Nat} {rest : List Value} {T : TypeId} {rs rs' : List ByteArray}
theorem TA.ne (h : TA W w B tb rv0 rv hd n rest T rs) (hT : T ≠ 9) {g : Nat} (hg : rv.ownBlock = some g) : g ≠ tb := by
  obtain ⟨_, _, c, fr, hc⟩ := own_blk h.own hg
  exact blocks_ne hc h.b (Ne.symm hT)
theorem TA.next (h : TA W w B tb rv0 rv hd n rest T rs) (hB : Below W.heap.size W W') : TA W' w B tb rv0 rv hd n rest T rs :=
  ⟨(hB.block _ (Array.getElem?_eq_some_iff.1 h.b).1).trans h.b, own_keep h.own fun g hg => hB.block _ (own_blk h.own hg).2.1, h.ch.trans ⟨hB.os, hB.tape, hB.output, hB.size, fun k hk _ => hB.block k hk⟩, h.ob⟩
theorem TA.set1 (h : TA W w B tb rv0 rv hd n rest T rs) (hT : T ≠ 9) (hd' : ByteArray) : TA (W.setCell ⟨tb, 1, none⟩ (.string hd')) w B tb rv0 rv hd' n rest T rs :=
  ⟨by rw [← tpc_set1 rv hd]; exact heap_setCell_same _ _ _ _ _ _ h.b, own_keep h.own fun g hg => Below.heap_setCell _ _ _ _ (h.ne hT hg), h.ch.set (.inl rfl) _, h.ob⟩
theorem TA.set2 (h : TA W w B tb rv0 rv hd n rest T rs) (hT : T ≠ 9) (n' : Nat) : TA (W.setCell ⟨tb, 2, none⟩ (.int .i64 (n' : Int))) w B tb rv0 rv hd n' rest T rs :=
  ⟨by rw [← tpc_set2 rv hd n]; exact heap_setCell_same _ _ _ _ _ _ h.b, own_keep h.own fun g hg => Below.heap_setCell _ _ _ _ (h.ne hT hg), h.ch.set (.inl rfl) _, h.ob⟩
/-- the records appended -/
theorem TA.app (h : TA W w B tb rv0 rv hd n rest T rs) (hT : T ≠ 9) (ho : StrsOwn W' B u rs') (hc : ChgS (fun j => rv.ownBlock = some j) W W') (hu : u.ownBlock = rv.ownBlock ∨ ∃ g, u.ownBlock = some g ∧ W.heap.size ≤ g) :
    W'.heap[tb]? = some (.cells (tpc rv hd n rest) T (0, 0)) ∧ TA (W'.setCell ⟨tb, 0, none⟩ u) w B tb rv0 u hd n rest T rs' := by
  have htb := (Array.getElem?_eq_some_iff.1 h.b).1
  have hb' : W'.heap[tb]? = some (.cells (tpc rv hd n rest) T (0, 0)) := (hc.block tb htb fun e => h.ne hT e rfl).trans h.b
  refine ⟨hb', by rw [← tpc_set0 rv u]; exact heap_setCell_same _ _ _ _ _ _ hb', own_keep ho fun g hg => Below.heap_setCell _ _ _ _ ?_, ChgS.set ⟨hc.os.trans h.ch.os, hc.tape.trans h.ch.tape, hc.output.trans h.ch.output, Nat.le_trans h.ch.size hc.size, fun k hk hn => ?_⟩ (.inl rfl) _, ?_⟩
  · obtain ⟨_, _, c, fr, hcc⟩ := own_blk ho hg
    exact blocks_ne hcc hb' (Ne.symm hT)
  · refine (hc.block k (Nat.lt_of_lt_of_le hk h.ch.size) fun e => ?_).trans (h.ch.block k hk hn)
    rcases h.ob with e2 | ⟨g, e2, e3⟩
    · exact hn (.inr (e2 ▸ e))
    · rw [e] at e2
      cases e2
      omega
  · rcases hu with e | ⟨g, e, e3⟩
    · rw [e]
      exact h.ob
    · exact .inr ⟨g, e, Nat.le_trans h.ch.size e3⟩
end
theorem ChgS.belowJ {Q : Nat → Prop} {W W' : World} {B : Nat} (h : ChgS Q W W') (hQ : ∀ k, Q k → B ≤ k) (hB : B ≤ W.heap.size) : Below B W W' :=
  ⟨h.os, h.tape, h.output, h.size, fun k hk => h.block k (by omega) fun hq => absurd (hQ k hq) (by omega)⟩
theorem cell_of {W : World} {tb : Nat} {cs : Array Value} {T : TypeId} {i : Nat} {v : Value} (h : W.heap[tb]? = some (.cells cs T (0, 0))) (hi : cs[i]? = some v) : W.cell? ⟨tb, i, none⟩ = some v := (cellAt h i).trans hi
theorem unfrozen {W : World} {tb i : Nat} {cs : Array Value} {T : TypeId} (h : W.heap[tb]? = some (.cells cs T (0, 0))) : W.frozen? ⟨tb, i, none⟩ = false := by simp [World.frozen?, h]
section
variable {ev : Operand → Value} {o : Oper} {x y : Operand} {w : World}
theorem op_b1 (ho : o.op = .buildSlice 39 1 #[(0, x)]) (hx : ev x = .int .u8 1) : (execOp ev o).run Tryz.prog w = .ok (.value (.slice (some ⟨w.heap.size, 0, none⟩) 1 1)) (w.alloc (.cells #[.int .u8 1] 5)) := by
  unfold execOp
  rw [ho]
  go_simp
theorem op_cv {g : Nat} {l : List UInt8} {n c : Nat} (ho : o.op = .convert 39 9 x) (hx : ev x = .slice (some ⟨g, 0, none⟩) n c) (hg : w.heap[g]? = some (.cells (RW.byl l).toArray 5 (0, 0))) (hn : n = l.length) : (execOp ev o).run Tryz.prog w = .ok (.value (.string (RW.strOf l))) w := by
  have h1 := run_conv w g l hg 0 n c (by omega)
  rw [List.drop_zero, hn, List.take_length] at h1
  unfold execOp
  rw [ho]
  simp only [hx, hn, Sem.run_bind, Sem.run_pure, h1, Result.andThen_ok]
end
theorem fa_tp1 {b : Nat} (W : World) : (Instr.fieldAt 83 (.pointer (some ⟨b, 0, none⟩)) 1).run Tryz.prog W = .ok (.pointer (some ⟨b, 1, none⟩)) W := by
  go_simp
set_option maxRecDepth 10000 in
set_option maxHeartbeats 4000000 in
theorem tadd_any (tb B : Nat) (rv : Value) (hd r : ByteArray) (n : Nat) (rest : List Value) (T : TypeId) (hT : T ≠ 9) (rs : List ByteArray) (hrs : rs.length ≤ 5000000) (hr : r.size ≤ 65536) (hh : hd.size = 32) (hn : n ≤ 100000000) (K : Nat → Int) (ks : Array Value) (hks : RW.WsOk ks K) (w : World) (hK : KLaid w ks) (hB : B ≤ w.heap.size) (hb : w.heap[tb]? = some (.cells (tpc rv hd n rest) T (0, 0))) (hown : StrsOwn w B rv rs) :
    Calls Tryz.prog 43 #[.pointer (some ⟨tb, 0, none⟩), .string r] w fun e w' => e = .returned (.string ⟨(RW.sto (RW.sha K) hd.data.toList r).toArray⟩) ∧ ∃ rv', TA w' w B tb rv rv' ⟨(RW.chn (RW.sha K) hd.data.toList r).toArray⟩ (n + (RW.sto (RW.sha K) hd.data.toList r).length) rest T (rs ++ [r]) := by
  obtain ⟨N, hN⟩ : ∃ N : ByteArray, N = ⟨(RW.chn (RW.sha K) hd.data.toList r).toArray⟩ := ⟨_, rfl⟩
  have hNl : N.data.toList = RW.chn (RW.sha K) hd.data.toList r := by rw [hN]
  have hNs : N.size = 32 := by rw [← size_list, hNl]; exact RW.sha_len _ _
  obtain ⟨P, hP⟩ : ∃ P : ByteArray, P = ⟨(RW.putS r.data.toList).toArray⟩ := ⟨_, rfl⟩
  have hPl : P.data.toList = RW.putS r.data.toList := by rw [hP]
  have hPs : P.size ≤ 65600 := by
    rw [← size_list, hPl]
    have h1 := RW.putI_len (r.data.toList.length : Int)
    have h2 := size_list r
    unfold RW.putS
    rw [List.length_append]
    omega
  obtain ⟨O, hO⟩ : ∃ O : ByteArray, O = RW.strOf [1] ++ P ++ N := ⟨_, rfl⟩
  have hOl : O.data.toList = RW.sto (RW.sha K) hd.data.toList r := by
    rw [hO, app_data, app_data, hPl, hNl]
    rfl
  have hOe : (⟨(RW.sto (RW.sha K) hd.data.toList r).toArray⟩ : ByteArray) = O := by
    rw [← hOl]
  have hOs : O.size ≤ 70000 := by
    rw [hO, ByteArray.size_append, ByteArray.size_append, hNs, show (RW.strOf [1]).size = 1 from rfl]
    omega
  have hC := hide (chain_any hd r (by omega) K ks hks w hK)
  rw [← hN] at hC ⊢
  rw [hOe, ← hOl, size_list]
  have hOsH := hide hOs
  have hPu := hide (fun W => putstr r hr W)
  rw [← hP] at hPu
  have hOH := hide hO
  have ha1 := hide (show (RW.strOf [1]).size + P.size ≤ 9223372036854775807 by rw [show (RW.strOf [1]).size = 1 from rfl]; omega)
  have ha2 := hide (show (RW.strOf [1] ++ P).size + N.size ≤ 9223372036854775807 by rw [ByteArray.size_append, show (RW.strOf [1]).size = 1 from rfl]; omega)
  have hTH := hide hT
  have hT0 := hide (show TA w w B tb rv rv hd n rest T rs from ⟨hb, hown, ChgS.refl _ _, .inl rfl⟩)
  have hBH := hide hB
  have hrsH := hide hrs
  have c1 : w.cell? ⟨tb, 1, none⟩ = some (.string hd) := cell_of hb (tpc1 _ _ _ _)
  clear hN hNl hNs hP hPl hPs hO hOl hOe hT hB hrs hK hb hown hOs
  go_enter Tryz.func43, Tryz.ntmps43
  go_upto_region 2 with (go_at_call 89; refine hC.out.mono ?_; rintro e w1 ⟨rfl, hB1⟩; have hT1 := hide (hT0.out.next hB1); have d1 : w1.cell? ⟨tb, 1, none⟩ = some (.string hd) := cell_of hT1.out.b (tpc1 _ _ _ _); have f1 : w1.frozen? ⟨tb, 1, none⟩ = false := unfrozen hT1.out.b; clear hB1)
  refine gen_w (fun W => TA W w B tb rv rv N n rest T rs) (hT1.out.set1 hTH.out N) ?_
  clear hT1 hT0 hC c1 d1 f1
  intro w2 hT2
  have hT2H := hide hT2
  obtain ⟨ra, rc, rfl⟩ := own_shape hT2.own
  obtain ⟨v', W', hrun, ho', hc', hu'⟩ := run_app_str r hT2.own (Nat.le_trans hBH.out hT2.ch.size) hrsH.out
  obtain ⟨hb3, hT3'⟩ := hT2.app hTH.out ho' hc' hu'
  have hT3 := hide hT3'
  obtain ⟨va, vc, ev'⟩ := own_shape ho'
  rw [show (rs ++ [r]).length = rs.length + 1 by simp] at ev'
  subst ev'
  have c0 : w2.cell? ⟨tb, 0, none⟩ = some (.slice ra rs.length rc) := cell_of hT2.b (tpc0 _ _ _ _)
  have d0 : W'.cell? ⟨tb, 0, none⟩ = some (.slice ra rs.length rc) := cell_of hb3 (tpc0 _ _ _ _)
  have f0 : W'.frozen? ⟨tb, 0, none⟩ = false := unfrozen hb3
  clear hT2 ho' hc' hu' hb3 hT3'
  go_upto_region 3 with (at_builtin; refine wpList_app_run rfl (.tmp 21) (.tmp 23) rfl rfl rfl hrun ?_)
  refine gen_w (fun W => TA W w B tb (.slice ra rs.length rc) (.slice va (rs.length + 1) vc) N n rest T (rs ++ [r])) hT3.out ?_
  clear hT3 hT2H hrun c0 d0 f0
  intro w3 hT3
  have hT3H := hide hT3
  clear hT3
  go_upto_region 4 with (go_at_call 77; refine (hPu.out _).mono ?_; rintro e w4 ⟨rfl, hB4⟩; have hT4 := hide (hT3H.out.next hB4); clear hB4)
  clear hT3H hPu
  have hTx := hide (fun W (hW : Below w4.heap.size w4 W) => hT4.out.next hW)
  refine wp_region_k (fun _ W => Below w4.heap.size w4 W) (fun _ => True) [0, 1] (.op 2 (.op 4 (.op 5 (.op 6 (.op 7 (.op 0 (.op 1 (.op 3 (.op 8 (.op 9 .nil)))))))))) (by kernel_rfl) (by kernel_rfl) (by rfl) (by kernel_rfl) (Below.refl w4.heap.size w4).drew trivial ?_
  refine k_val (.string P) (by apply opN; repeat' (first | apply OpAt.z | apply OpAt.s)) (by rfl) (by rfl) (fun _ W hS => op_mv rfl rfl) ?_
  simp only [Act.put, List.setIfInBounds_toArray, List.set_cons_zero, List.set_cons_succ]
  refine k_val (.pointer (some ⟨tb, 0, none⟩)) (by apply opN; repeat' (first | apply OpAt.z | apply OpAt.s)) (by rfl) (by rfl) (fun _ W hS => op_mv rfl rfl) ?_
  simp only [Act.put, List.setIfInBounds_toArray, List.set_cons_zero, List.set_cons_succ]
  refine k_val (.pointer (some ⟨tb, 0, none⟩)) (by apply opN; repeat' (first | apply OpAt.z | apply OpAt.s)) (by rfl) (by rfl) (fun _ W hS => op_nc rfl rfl) ?_
  simp only [Act.put, List.setIfInBounds_toArray, List.set_cons_zero, List.set_cons_succ]
  refine k_val (.pointer (some ⟨tb, 1, none⟩)) (by apply opN; repeat' (first | apply OpAt.z | apply OpAt.s)) (by rfl) (by rfl) (fun _ W hS => op_fa rfl rfl (fa_tp1 W)) ?_
  simp only [Act.put, List.setIfInBounds_toArray, List.set_cons_zero, List.set_cons_succ]
  refine k_val (.string N) (by apply opN; repeat' (first | apply OpAt.z | apply OpAt.s)) (by rfl) (by rfl) (fun _ W hS => op_ld rfl rfl (str_ld (cell_of (hTx.out W hS).b (tpc1 _ _ _ _)))) ?_
  simp only [Act.put, List.setIfInBounds_toArray, List.set_cons_zero, List.set_cons_succ]
  refine k_step (fun K' u => ∃ g, u = .slice (some ⟨g, 0, none⟩) 1 1 ∧ K' = fun W => W.heap[g]? = some (.cells (RW.byl [1]).toArray 5 (0, 0))) (by apply opN; repeat' (first | apply OpAt.z | apply OpAt.s)) (by rfl) (by rfl) (by rfl) (fun W hCW hK => ?_) ?_
  · exact xup_val (op_b1 rfl rfl) ⟨alloc_bel hCW (Nat.le_refl _) _, _, alloc_at1 W _, W.heap.size, rfl, rfl⟩
  rintro _ _ ⟨g, rfl, rfl⟩
  simp only [Act.put, List.setIfInBounds_toArray, List.set_cons_zero, List.set_cons_succ]
  refine k_step (fun K' u => u = .string (RW.strOf [1]) ∧ K' = fun _ => True) (by apply opN; repeat' (first | apply OpAt.z | apply OpAt.s)) (by rfl) (by rfl) (by rfl) (fun W hCW hK => ?_) ?_
  · exact xup_val (op_cv rfl rfl hK rfl) ⟨hCW, _, trivial, rfl, rfl⟩
  rintro _ _ ⟨rfl, rfl⟩
  simp only [Act.put, List.setIfInBounds_toArray, List.set_cons_zero, List.set_cons_succ]
  refine k_val (.string (RW.strOf [1] ++ P)) (by apply opN; repeat' (first | apply OpAt.z | apply OpAt.s)) (by rfl) (by rfl) (fun _ W hS => op_adds rfl rfl rfl ha1.out) ?_
  simp only [Act.put, List.setIfInBounds_toArray, List.set_cons_zero, List.set_cons_succ]
  refine k_val (.string O) (by apply opN; repeat' (first | apply OpAt.z | apply OpAt.s)) (by rfl) (by rfl) (fun _ W hS => (op_adds rfl rfl rfl ha2.out).trans (by rw [hOH.out])) ?_
  simp only [Act.put, List.setIfInBounds_toArray, List.set_cons_zero, List.set_cons_succ]
  refine k_val (.string O) (by apply opN; repeat' (first | apply OpAt.z | apply OpAt.s)) (by rfl) (by rfl) (fun _ W hS => op_asg rfl rfl) ?_
  simp only [Act.put, List.setIfInBounds_toArray, List.set_cons_zero, List.set_cons_succ]
  refine k_nil ?_
  intro W hCW _
  have hT5 := hide (hTx.out W hCW)
  have c2 : W.cell? ⟨tb, 2, none⟩ = some (.int .i64 (n : Int)) := cell_of hT5.out.b (tpc2 _ _ _ _)
  have f2 : W.frozen? ⟨tb, 2, none⟩ = false := unfrozen hT5.out.b
  have hT6 := hide (hT5.out.set2 hTH.out (n + O.size))
  have hOs2 : O.size ≤ 70000 := hOsH.out
  have ecast : (n : Int) + (O.size : Int) = ((n + O.size : Nat) : Int) := by omega
  rw [← ecast] at hT6
  clear hCW hTx hT4 hT5 ecast
  go_wp2
  go_ret
  exact ⟨rfl, _, hT6.out⟩
end Go.Proofs.YtllbphanfahkkaaGreatDoor

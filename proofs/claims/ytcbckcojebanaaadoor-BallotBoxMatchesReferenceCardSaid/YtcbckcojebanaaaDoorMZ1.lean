/-
  Messages by stages: what single operations do: no condition beyond each theorem's own premises.
-/
import Derived.Test.YtcbckcojebanaaaDoorMC
import Derived.Test.YtcbckcojebanaaaDoorMZ0
import Derived.Test.YtcbckcojebanaaaDoorMB
import Derived.IntWalk
namespace Go.Proofs.YtcbckcojebanaaaDoor
open Go.RowKit RG
theorem op_load_int {ev : Operand → Value} {o : Oper} {x : Operand} {b i : Nat} {n : Int} {w : World} (ho : o.op = .load 3 x) (hx : ev x = .pointer (some ⟨b, i, none⟩)) (hc : w.cell? ⟨b, i, none⟩ = some (.int .i64 n)) :
    (execOp ev o).run Tryd.prog w = .ok (.value (.int .i64 n)) w := by
  unfold execOp
  rw [ho]
  simp only [hx]
  go_simp
theorem op_load_str {ev : Operand → Value} {o : Oper} {x : Operand} {b i : Nat} {n : ByteArray} {w : World} (ho : o.op = .load 9 x) (hx : ev x = .pointer (some ⟨b, i, none⟩)) (hc : w.cell? ⟨b, i, none⟩ = some (.string n)) :
    (execOp ev o).run Tryd.prog w = .ok (.value (.string n)) w := by
  unfold execOp
  rw [ho]
  simp only [hx]
  go_simp
theorem op_fa_0 {ev : Operand → Value} {o : Oper} {x : Operand} {b : Nat} {w : World} (ho : o.op = .fieldAddr 24 x 0) (hx : ev x = .pointer (some ⟨b, 0, none⟩)) : (execOp ev o).run Tryd.prog w = .ok (.value (.pointer (some ⟨b, 0, none⟩))) w := by
  unfold execOp
  rw [ho]
  simp only [hx]
  go_simp
theorem op_fa_1 {ev : Operand → Value} {o : Oper} {x : Operand} {b : Nat} {w : World} (ho : o.op = .fieldAddr 24 x 1) (hx : ev x = .pointer (some ⟨b, 0, none⟩)) : (execOp ev o).run Tryd.prog w = .ok (.value (.pointer (some ⟨b, 1, none⟩))) w := by
  unfold execOp
  rw [ho]
  simp only [hx]
  go_simp
theorem op_fa_2 {ev : Operand → Value} {o : Oper} {x : Operand} {b : Nat} {w : World} (ho : o.op = .fieldAddr 24 x 2) (hx : ev x = .pointer (some ⟨b, 0, none⟩)) : (execOp ev o).run Tryd.prog w = .ok (.value (.pointer (some ⟨b, 2, none⟩))) w := by
  unfold execOp
  rw [ho]
  simp only [hx]
  go_simp
theorem op_fa_3 {ev : Operand → Value} {o : Oper} {x : Operand} {b : Nat} {w : World} (ho : o.op = .fieldAddr 24 x 3) (hx : ev x = .pointer (some ⟨b, 0, none⟩)) : (execOp ev o).run Tryd.prog w = .ok (.value (.pointer (some ⟨b, 3, none⟩))) w := by
  unfold execOp
  rw [ho]
  simp only [hx]
  go_simp
theorem op_fa_4 {ev : Operand → Value} {o : Oper} {x : Operand} {b : Nat} {w : World} (ho : o.op = .fieldAddr 24 x 4) (hx : ev x = .pointer (some ⟨b, 0, none⟩)) : (execOp ev o).run Tryd.prog w = .ok (.value (.pointer (some ⟨b, 4, none⟩))) w := by
  unfold execOp
  rw [ho]
  simp only [hx]
  go_simp
theorem op_fa_5 {ev : Operand → Value} {o : Oper} {x : Operand} {b : Nat} {w : World} (ho : o.op = .fieldAddr 24 x 5) (hx : ev x = .pointer (some ⟨b, 0, none⟩)) : (execOp ev o).run Tryd.prog w = .ok (.value (.pointer (some ⟨b, 5, none⟩))) w := by
  unfold execOp
  rw [ho]
  simp only [hx]
  go_simp
theorem op_fa_6 {ev : Operand → Value} {o : Oper} {x : Operand} {b : Nat} {w : World} (ho : o.op = .fieldAddr 24 x 6) (hx : ev x = .pointer (some ⟨b, 0, none⟩)) : (execOp ev o).run Tryd.prog w = .ok (.value (.pointer (some ⟨b, 6, none⟩))) w := by
  unfold execOp
  rw [ho]
  simp only [hx]
  go_simp
theorem op_fa_7 {ev : Operand → Value} {o : Oper} {x : Operand} {b : Nat} {w : World} (ho : o.op = .fieldAddr 24 x 7) (hx : ev x = .pointer (some ⟨b, 0, none⟩)) : (execOp ev o).run Tryd.prog w = .ok (.value (.pointer (some ⟨b, 7, none⟩))) w := by
  unfold execOp
  rw [ho]
  simp only [hx]
  go_simp
theorem op_call1 {ev : Operand → Value} {o : Oper} {x : Operand} {k : Nat} {ts : Array TypeId} {n : Value} {w : World} (ho : o.op = .call ⟨.value (.func k), #[x], ts⟩) (hf : ev (.func k) = .func (.func k) #[] #[]) (hx : ev x = n) (hk : ∀ args w, (callFunc k args).run Tryd.prog w = .ok (.enter k args) w) : (execOp ev o).run Tryd.prog w = .ok (.enter k #[n]) w := by
  unfold execOp
  rw [ho]
  go_simp
theorem op_leq {ev : Operand → Value} {o : Oper} {x y : Operand} {m n : Int} {w : World} (ho : o.op = .binOp .leq 3 x y 3) (hx : ev x = .int .i64 m) (hy : ev y = .int .i64 n) : (execOp ev o).run Tryd.prog w = .ok (.value (.bool (decide (m ≤ n)))) w := by
  unfold execOp
  rw [ho]
  simp only [hx, hy]
  go_simp
theorem op_geq {ev : Operand → Value} {o : Oper} {x y : Operand} {m n : Int} {w : World} (ho : o.op = .binOp .geq 3 x y 3) (hx : ev x = .int .i64 m) (hy : ev y = .int .i64 n) : (execOp ev o).run Tryd.prog w = .ok (.value (.bool (decide (n ≤ m)))) w := by
  unfold execOp
  rw [ho]
  simp only [hx, hy]
  go_simp
theorem op_lss {ev : Operand → Value} {o : Oper} {x y : Operand} {m n : Int} {w : World} (ho : o.op = .binOp .lss 3 x y 3) (hx : ev x = .int .i64 m) (hy : ev y = .int .i64 n) : (execOp ev o).run Tryd.prog w = .ok (.value (.bool (decide (m < n)))) w := by
  unfold execOp
  rw [ho]
  simp only [hx, hy]
  go_simp
theorem op_pick {ev : Operand → Value} {o : Oper} {x y z : Operand} {p q : Bool} {u v : Value} {w : World} (ho : o.op = .pick x y z) (hx : ev x = .bool p) (hy : ev y = u) (hz : ev z = v) (hq : (if p = true then u else v) = .bool q) : (execOp ev o).run Tryd.prog w = .ok (.value (.bool q)) w := by
  unfold execOp
  rw [ho]
  simp only [hx, hy, hz]
  rw [← hq]
  go_simp
theorem op_eql_int {ev : Operand → Value} {o : Oper} {x y : Operand} {m n : Int} {w : World} (ho : o.op = .binOp .eql 3 x y 3) (hx : ev x = .int .i64 m) (hy : ev y = .int .i64 n) : (execOp ev o).run Tryd.prog w = .ok (.value (.bool (m == n))) w := by
  unfold execOp
  rw [ho]
  simp only [hx, hy]
  go_simp
theorem op_eql_errno {ev : Operand → Value} {o : Oper} {x y : Operand} {m n : Int} {w : World} (ho : o.op = .binOp .eql 27 x y 27) (hx : ev x = .int .i64 m) (hy : ev y = .int .i64 n) : (execOp ev o).run Tryd.prog w = .ok (.value (.bool (m == n))) w := by
  unfold execOp
  rw [ho]
  simp only [hx, hy]
  go_simp
theorem op_eql_str {ev : Operand → Value} {o : Oper} {x y : Operand} {m n : ByteArray} {w : World} (ho : o.op = .binOp .eql 9 x y 9) (hx : ev x = .string m) (hy : ev y = .string n) : (execOp ev o).run Tryd.prog w = .ok (.value (.bool (m.toList == n.toList))) w := by
  unfold execOp
  rw [ho]
  simp only [hx, hy]
  go_simp
end Go.Proofs.YtcbckcojebanaaaDoor

/-
  Whole messages loaded and stored, under names that a walk does not open: no condition beyond each theorem's own premises.
-/
namespace Go.Proofs.YtcbckcojebanaaaDoor
open Go.RowKit
theorem heap_new_at {w : World} {o : Obj} {g : Nat} (h : g = w.heap.size) : (w.alloc o).heap[g]? = some o := h ▸ heap_alloc_new w o
theorem setRow_alloc (w : World) (old cs : Array Value) (t : TypeId) : (w.alloc (.cells old t)).setRow w.heap.size cs = w.alloc (.cells cs t) := by
  simp only [World.setRow, World.alloc]
  congr 1
  apply Array.ext_getElem?
  intro i
  rw [Array.getElem?_modify]
  by_cases h : w.heap.size = i
  · subst h; simp
  · rw [if_neg h, Array.getElem?_push, Array.getElem?_push, if_neg (Ne.symm h), if_neg (Ne.symm h)]
/-- a whole row goes into a variable that was just made -/
theorem wpList_store_new {P : Program} {ops : Array Oper} {rest : List Oper} {o : Oper} {a : Act} {w : World} {Q : Exit → Act → World → Prop} (hgd : o.guard = none) (ty : TypeId) (x y : Operand) (ho : o.op = .store ty x y)
    (cells : Array Value) (hx : a.eval x = .pointer (some ⟨w.heap.size, 0, none⟩)) (hy : a.eval y = .agg cells)
    (t : TypeId) (old : Array Value) (hi : (P.info? ty).map (·.size) = some cells.size) (hold : old.size = cells.size) (h1 : cells.all (·.oneCell') = true)
    (h : wpList P ops Q rest (a.put o.dst undef) (w.alloc (.cells cells t))) : wpList P ops Q (o :: rest) a (w.alloc (.cells old t)) := by
  refine wpList_store_row hgd ty x y ho w.heap.size cells hx hy t old (heap_alloc_new w _) hi hold h1 ?_
  rw [setRow_alloc]; exact h
def ldMsg (T : TypeId) (x : Value) : Sem Value := Instr.loadAt T x
def stMsg (T : TypeId) (x y : Value) : Sem Unit := Instr.storeAt T x y
theorem ldMsg_msg (x : Value) : Instr.loadAt 24 x = ldMsg 24 x := rfl
theorem stMsg_msg (x y : Value) : Instr.storeAt 24 x y = stMsg 24 x y := rfl
theorem ldMsg_eq {P : Program} (w : World) (g : Nat) (t ty : TypeId) (cs : Array Value) (fr : Nat × Nat) (d : TypeDesc) (hg : w.heap[g]? = some (.cells cs t fr))
    (hu : P.underlying ty = some d) (hd : (match d with | .struct _ | .array _ _ => true | _ => false) = true) (hi : (P.info? ty).map (·.size) = some cs.size) :
    (ldMsg ty (.pointer (some ⟨g, 0, none⟩))).run P w = .ok (.agg cs) w := by
  simp only [ldMsg, Instr.loadAt, Instr.sureAddr, Sem.run_bind, Sem.run_pure, Result.andThen_ok, run_loadVar_row w g t ty cs fr d hg hu hd hi]
theorem stMsg_eq (w : World) (g : Nat) (cells : Array Value) (t ty : TypeId) (old : Array Value) (hg : w.heap[g]? = some (.cells old t (0, 0))) (hi : (Tryd.prog.info? ty).map (·.size) = some cells.size)
    (hold : old.size = cells.size) (h1 : cells.all (·.oneCell') = true) : (stMsg ty (.pointer (some ⟨g, 0, none⟩)) (.agg cells)).run Tryd.prog w = .ok () (w.setRow g cells) := by
  simp only [stMsg, Instr.storeAt, Instr.sureAddr, Sem.run_bind, Sem.run_pure, Result.andThen_ok, run_storeVar_row w g t ty old cells hg hi hold h1]
theorem msg_info (n : Nat → Int) (d : ByteArray) (v : Value) : (Tryd.prog.info? 24).map (·.size) = some (RW.mcells n d v).size := by kernel_rfl
theorem msg_one (n : Nat → Int) (d : ByteArray) (v : Value) (hv : v.oneCell' = true) : (RW.mcells n d v).all (·.oneCell') = true := by
  simp [RW.mcells, hv]
  exact ⟨rfl, rfl, rfl, rfl, rfl, rfl, rfl⟩
theorem msg_ld {W : World} {b : Nat} {n : Nat → Int} {d : ByteArray} {v : Value} (h : W.heap[b]? = some (.cells (RW.mcells n d v) 24 (0, 0))) : (ldMsg 24 (.pointer (some ⟨b, 0, none⟩))).run Tryd.prog W = .ok (.agg (RW.mcells n d v)) W :=
  ldMsg_eq _ _ _ _ _ _ _ h Tryd.underlying24 rfl (msg_info n d v)
theorem msg_st {W : World} {b : Nat} {n n2 : Nat → Int} {d d2 : ByteArray} {v v2 : Value} (h : W.heap[b]? = some (.cells (RW.mcells n d v) 24 (0, 0))) (hv : v2.oneCell' = true) :
    (stMsg 24 (.pointer (some ⟨b, 0, none⟩)) (.agg (RW.mcells n2 d2 v2))).run Tryd.prog W = .ok () (W.setRow b (RW.mcells n2 d2 v2)) :=
  stMsg_eq _ _ _ _ _ _ h (msg_info n2 d2 v2) rfl (msg_one _ _ _ hv)
theorem StrsV.one {W : World} {v : Value} {l : List ByteArray} (h : StrsV W v l) : v.oneCell' = true := by
  obtain ⟨a, cap, rfl, _⟩ := h
  rfl
end Go.Proofs.YtcbckcojebanaaaDoor

/-
  Package royaltyref02: extended, constants: what they return; only new memory is written.
-/
namespace Go.Proofs.YtcbckcojebanaaaDoor
open Go.RowKit
theorem info_u8 : (Tryd.prog.info? 5).map (fun i => (i.zero, i.size, i.bytes)) = some (some (.int .u8 0), 1, 1) := by kernel_rfl
theorem info_u32 : (Tryd.prog.info? 99).map (fun i => (i.zero, i.size, i.bytes)) = some (some (.int .u32 0), 1, 4) := by kernel_rfl
/-- behind an append of what was just built -/
theorem below_app {B : Nat} {w wr w3 : World} {e : TypeId} {size n : Nat} {v : Value} {xs : List Value} {o : Obj} (hB : Below B w wr) (hs : B ≤ wr.heap.size) (hown : wr.ownsRow B e size v n xs) (hg : (wr.alloc o).grownBy w3 v.ownBlock) : Below B w w3 ∧ B ≤ w3.heap.size := by
  have h1 := hB.alloc hs o
  have h2 := hg.size
  simp at h2
  exact ⟨h1.grown hg (by simp; omega) (fun k hk => (hown.lt k hk).1), by omega⟩
theorem owns_form {w : World} {B : Nat} {e : TypeId} {v : Value} {n size : Nat} {xs : List Value} (h : w.ownsRow B e size v n xs) : ∃ a cap, v = .slice a n cap := by
  rcases h.2 with ⟨h1, h2⟩ | ⟨g, cap, cur, h2, _⟩
  · exact ⟨none, 0, by rw [h1, h2]⟩
  · exact ⟨_, _, h2⟩
def ExtPost (s : ByteArray) (w : World) (e : Ending) (w' : World) : Prop :=
  ∃ v, e = .returned v ∧ w'.ownsRow w.heap.size 5 1 v (RW.padL s.data.toList).length (RW.bytesV (RW.padL s.data.toList)) ∧ Below w.heap.size w w'
set_option maxRecDepth 100000 in
set_option maxHeartbeats 4000000 in
theorem extended_any (s : ByteArray) (hs : s.size ≤ 1099511627776) (w : World) :
    Calls Tryd.prog 68 #[.string s] w (ExtPost s w) := by
  obtain ⟨i0, hi, hz0, hz1, hz2⟩ := info_parts info_u8
  obtain ⟨B, hB⟩ : ∃ b, b = w.heap.size := ⟨_, rfl⟩
  have hBH := hide hB
  have hwB := hide (show B ≤ w.heap.size by omega)
  clear hB
  go_enter Tryd.func68, Tryd.ntmps68
  go_wp2
  go_loopw [3, 4] (fun v i wr => ∃ k : Nat, k ≤ s.size ∧ i = .int .i64 k ∧ wr.ownsRow B 5 1 v k (RW.bytesV (s.data.toList.take k)) ∧ Below B w wr ∧ B ≤ wr.heap.size) (fun _ i _ => s.size - (intOf i).toNat)
  case atStart => exact ⟨0, by omega, rfl, World.ownsRow_nil _ _ _ _, Below.refl _ _, hwB.out⟩
  case round =>
    obtain ⟨k, hk, rfl, hown, hBw, hBs⟩ := hrel
    by_cases hlt : k < s.size
    · have ht : RW.bytesV (s.data.toList.take k) ++ [.int .u8 (s[k].toNat : Int)] = RW.bytesV (s.data.toList.take (k + 1)) := by
        rw [List.take_succ_eq_append_getElem (by simpa using hlt)]; simp [RW.bytesV]; rfl
      have htH := hide ht
      clear ht
      go_wp2_with (at_builtin; refine wpList_append_own _ rfl _ _ 60 rfl B 5 i0 (.int .u8 0) 1 1 Tryd.underlying60 hi hz0 hz1 hz2 rfl (by decide) _ _ _ rfl (hown.alloc _) ⟨wr.heap.size, 0, none⟩ 1 1 [.int .u8 (s[k].toNat : Int)] rfl rfl ?c1 ?c2 ?c3 ?c4 ?c5 ?_)
      case c1 => exact cell_one_new _ _ _
      case c2 => intro u hu; simp at hu; subst hu; rfl
      case c3 => unfold maxLen; omega
      case c4 => omega
      case c5 => simp; omega
      intro v' w3 hown' hgrow _
      rw [htH.out] at hown'
      obtain ⟨hB3, hs3⟩ := below_app hBw hBs hown hgrow
      clear hgrow hown hBw hBs
      go_wp2
      go_roundw
      case rel => exact ⟨k + 1, by omega, by go_num, hown', hB3, hs3⟩
      case measure => simp [intOf]; omega
    · obtain rfl : k = s.size := by omega
      have ht : s.data.toList.take s.size = s.data.toList := List.take_of_length_le (by simp)
      rw [ht] at hown
      clear ht
      have e2 : RW.bytesV s.data.toList ++ [.int .u8 128] = RW.bytesV (RW.padM s.data.toList 0) := by simp [RW.padM, RW.bytesV]
      have e2H := hide e2
      clear e2
      go_wp2_with (at_builtin; refine wpList_append_own _ rfl _ _ 60 rfl B 5 i0 (.int .u8 0) 1 1 Tryd.underlying60 hi hz0 hz1 hz2 rfl (by decide) _ _ _ rfl (hown.alloc _) ⟨wr.heap.size, 0, none⟩ 1 1 [.int .u8 128] rfl rfl ?c1 ?c2 ?c3 ?c4 ?c5 ?_)
      case c1 => exact cell_one_new _ _ _
      case c2 => intro u hu; simp at hu; subst hu; rfl
      case c3 => unfold maxLen; omega
      case c4 => omega
      case c5 => simp; omega
      intro v' w3 hown' hgrow _
      rw [e2H.out] at hown'
      obtain ⟨hB3, hs3⟩ := below_app hBw hBs hown hgrow
      clear hgrow hown hBw hBs e2H
      go_wp2
      go_loopw [3] (fun v wr => ∃ c : Nat, c ≤ RW.padZ s.size ∧ wr.ownsRow B 5 1 v (s.size + 1 + c) (RW.bytesV (RW.padM s.data.toList c)) ∧ Below B w wr ∧ B ≤ wr.heap.size)
        (fun v wr => match v with | .slice _ l _ => s.size + 65 - l | _ => 0)
      case atStart => exact ⟨0, Nat.zero_le _, hown', hB3, hs3⟩
      case round =>
        clear hown' hB3 hs3
        obtain ⟨c, hc, hown, hBw, hBs⟩ := hrel
        obtain ⟨ao, cap, rfl⟩ := owns_form hown
        by_cases hlt : c < RW.padZ s.size
        · have hd : (((s.size : Int) + 1 + c) % 64 != 56) = true := by
            unfold RW.padZ at hlt; simp only [bne_iff_ne, ne_eq]; omega
          have hcb : c < 64 := by unfold RW.padZ at hlt; omega
          have e3 : RW.bytesV (RW.padM s.data.toList c) ++ [.int .u8 0] = RW.bytesV (RW.padM s.data.toList (c + 1)) := by rw [RW.padM_succ]; simp [RW.bytesV]
          have e3H := hide e3
          clear e3
          go_wp2_with (at_builtin; refine wpList_append_own _ rfl _ _ 60 rfl B 5 i0 (.int .u8 0) 1 1 Tryd.underlying60 hi hz0 hz1 hz2 rfl (by decide) _ _ _ rfl (hown.alloc _) ⟨wr.heap.size, 0, none⟩ 1 1 [.int .u8 0] rfl rfl ?c1 ?c2 ?c3 ?c4 ?c5 ?_)
          case c1 => exact cell_one_new _ _ _
          case c2 => intro u hu; simp at hu; subst hu; rfl
          case c3 => unfold maxLen; omega
          case c4 => omega
          case c5 => simp; omega
          intro v' w3 hown' hgrow _
          rw [e3H.out] at hown'
          obtain ⟨hB3, hs3⟩ := below_app hBw hBs hown hgrow
          clear hgrow hown hBw hBs e3H
          obtain ⟨ao', cap', rfl⟩ := owns_form hown'
          go_wp2
          go_roundw
          case rel => exact ⟨c + 1, by omega, by rw [show s.size + 1 + (c + 1) = s.size + 1 + c + 1 by omega]; exact hown', hB3, hs3⟩
          case measure => simp; omega
        · have hcz : c = RW.padZ s.size := by omega
          have hd : (((s.size : Int) + 1 + c) % 64 != 56) = false := by
            rw [hcz]; unfold RW.padZ; simp only [bne_eq_false_iff_eq]; omega
          go_wp2
          subst hcz
          generalize hz : RW.padZ s.size = z at hown hd
          have hzb : z < 64 := by rw [← hz]; unfold RW.padZ; omega
          have hzH := hide hz
          clear hz hd hlt hc
          go_loopw [3, 5] (fun v iv wr => ∃ c : Nat, c ≤ 8 ∧ iv = .int .i64 (7 - (c : Int)) ∧ wr.ownsRow B 5 1 v (s.size + 1 + z + c) (RW.bytesV (RW.padM s.data.toList z ++ RW.padT s.size c)) ∧ Below B w wr ∧ B ≤ wr.heap.size)
            (fun v iv wr => (intOf iv + 1).toNat)
          case atStart => exact ⟨0, Nat.zero_le _, rfl, by simpa [RW.padT] using hown, hBw, hBs⟩
          case round =>
            clear hown hBw hBs
            obtain ⟨c, hc, rfl, hown, hBw, hBs⟩ := hrel
            by_cases hlt : c < 8
            · have hge : (0 : Int) ≤ 7 - (c : Int) := by omega
              have e3 : RW.bytesV (RW.padM s.data.toList z ++ RW.padT s.size c) ++ [.int .u8 (8 * (s.size : Int) / 2 ^ (8 * (7 - c)) % 256)] = RW.bytesV (RW.padM s.data.toList z ++ RW.padT s.size (c + 1)) := by
                rw [show RW.padT s.size (c + 1) = RW.padT s.size c ++ [RW.padB s.size (7 - c)] from rfl, RW.padB_int]; simp [RW.bytesV]
              have e3H := hide e3
              clear e3
              go_wp2_with (at_builtin; refine wpList_append_own _ rfl _ _ 60 rfl B 5 i0 (.int .u8 0) 1 1 Tryd.underlying60 hi hz0 hz1 hz2 rfl (by decide) _ _ _ rfl (hown.alloc _) ⟨wr.heap.size, 0, none⟩ 1 1 [.int .u8 (8 * (s.size : Int) / 2 ^ (8 * (7 - c)) % 256)] rfl rfl ?c1 ?c2 ?c3 ?c4 ?c5 ?_)
              case c1 => exact cell_one_new _ _ _
              case c2 => intro u hu; simp at hu; subst hu; rfl
              case c3 => unfold maxLen; omega
              case c4 => omega
              case c5 => simp; omega
              intro v' w3 hown' hgrow _
              rw [e3H.out] at hown'
              obtain ⟨hB3, hs3⟩ := below_app hBw hBs hown hgrow
              clear hgrow hown hBw hBs e3H
              go_wp2
              go_roundw
              case rel => exact ⟨c + 1, by omega, by go_num, by rw [show s.size + 1 + z + (c + 1) = s.size + 1 + z + c + 1 by omega]; exact hown', hB3, hs3⟩
              case measure => simp [intOf]; omega
            · have hge : ¬ (0 : Int) ≤ 7 - (c : Int) := by omega
              have hc8 : c = 8 := by omega
              have hpl : RW.padM s.data.toList z ++ RW.padT s.size c = RW.padL s.data.toList := by
                rw [hc8, ← hzH.out]; unfold RW.padL; rw [Array.length_toList]; rfl
              have hlen : s.size + 1 + z + c = (RW.padL s.data.toList).length := by rw [← hpl, List.length_append, RW.padM_len, RW.padT_len, Array.length_toList]; rfl
              rw [hpl, hlen] at hown
              clear hpl hlen hc8
              go_wp2
              go_ret
              exact ⟨_, rfl, by rw [← hBH.out]; exact hown, by rw [← hBH.out]; exact hBw⟩
namespace RW
def k0 : List Int := [1116352408, 1899447441, 3049323471, 3921009573, 961987163, 1508970993, 2453635748, 2870763221, 3624381080, 310598401, 607225278, 1426881987, 1925078388, 2162078206, 2614888103, 3248222580, 3835390401, 4022224774, 264347078, 604807628, 770255983, 1249150122, 1555081692, 1996064986, 2554220882, 2821834349, 2952996808, 3210313671, 3336571891, 3584528711, 113926993, 338241895, 666307205, 773529912, 1294757372, 1396182291, 1695183700, 1986661051, 2177026350, 2456956037, 2730485921, 2820302411, 3259730800, 3345764771, 3516065817, 3600352804, 4094571909, 275423344, 430227734, 506948616, 659060556, 883997877, 958139571, 1322822218, 1537002063, 1747873779, 1955562222, 2024104815, 2227730452, 2361852424, 2428436474, 2756734187, 3204031479, 3329325298]
def k0F (i : Nat) : Int := k0.getD i 0
def k0C : Array Value := (k0.map fun z => Value.int .u32 z).toArray
end RW
set_option maxRecDepth 100000 in
set_option maxHeartbeats 1000000 in
theorem constants_any (w : World) : Calls Tryd.prog 79 #[] w fun e w' => e = .returned (.slice (some ⟨w.heap.size, 0, none⟩) 64 64) ∧ w' = w.alloc (.cells RW.k0C 99) := by
  go_enter Tryd.func79, Tryd.ntmps79
  go_wp2
  go_ret
  exact ⟨rfl, rfl⟩
theorem RW.k0_len : RW.k0.length = 64 := by decide +kernel
theorem RW.k0C_ok : RW.WsOk RW.k0C RW.k0F := by
  refine ⟨by simp [k0C, k0_len], fun i hi => ?_⟩
  have h : i < k0.length := by rw [k0_len]; exact hi
  simp [k0C, k0F, List.getD, List.getElem?_eq_getElem h]
end Go.Proofs.YtcbckcojebanaaaDoor

/-
  What the operations of a region do, one by one (words, bytes, indexes, calls): no condition beyond each theorem's own premises.
-/
namespace Go.Proofs.YtcbckcojebanaaaDoor
open Go.RowKit RG
namespace OP
variable {ev : Operand → Value} {o : Oper} {x y z : Operand} {w : World}
theorem sub_i {m n r : Int} (ho : o.op = .binOp .sub 3 x y 3) (hx : ev x = .int .i64 m) (hy : ev y = .int .i64 n) (h : m - n = r) (hb : -9223372036854775808 ≤ r ∧ r ≤ 9223372036854775807) : (execOp ev o).run Tryd.prog w = .ok (.value (.int .i64 r)) w := by
  have e : IntKind.i64.wrap (m - n) = r := by rw [h]; exact IntWalk.i64_in _ hb
  unfold execOp
  rw [ho]
  clear hb h
  go_simp
theorem add_i {m n r : Int} (ho : o.op = .binOp .add 3 x y 3) (hx : ev x = .int .i64 m) (hy : ev y = .int .i64 n) (h : m + n = r) (hb : -9223372036854775808 ≤ r ∧ r ≤ 9223372036854775807) : (execOp ev o).run Tryd.prog w = .ok (.value (.int .i64 r)) w := by
  have e : IntKind.i64.wrap (m + n) = r := by rw [h]; exact IntWalk.i64_in _ hb
  unfold execOp
  rw [ho]
  clear hb h
  go_simp
theorem mul_i {m n r : Int} (ho : o.op = .binOp .mul 3 x y 3) (hx : ev x = .int .i64 m) (hy : ev y = .int .i64 n) (h : m * n = r) (hb : -9223372036854775808 ≤ r ∧ r ≤ 9223372036854775807) : (execOp ev o).run Tryd.prog w = .ok (.value (.int .i64 r)) w := by
  have e : IntKind.i64.wrap (m * n) = r := by rw [h]; exact IntWalk.i64_in _ hb
  unfold execOp
  rw [ho]
  clear hb h
  go_simp
theorem add_u {m n : Int} (ho : o.op = .binOp .add 99 x y 99) (hx : ev x = .int .u32 m) (hy : ev y = .int .u32 n) : (execOp ev o).run Tryd.prog w = .ok (.value (.int .u32 ((m + n) % 4294967296))) w := by
  have e : IntKind.u32.wrap (m + n) = (m + n) % 4294967296 := IntKind.wrap_u32 _
  unfold execOp
  rw [ho]
  go_simp
theorem xor_u {m n : Int} (ho : o.op = .binOp .xor 99 x y 99) (hx : ev x = .int .u32 m) (hy : ev y = .int .u32 n) : (execOp ev o).run Tryd.prog w = .ok (.value (.int .u32 (bits .xor .u32 m n))) w := by
  unfold execOp
  rw [ho]
  go_simp
theorem and_u {m n : Int} (ho : o.op = .binOp .and 99 x y 99) (hx : ev x = .int .u32 m) (hy : ev y = .int .u32 n) : (execOp ev o).run Tryd.prog w = .ok (.value (.int .u32 (bits .and .u32 m n))) w := by
  unfold execOp
  rw [ho]
  go_simp
theorem or_u {m n : Int} (ho : o.op = .binOp .or 99 x y 99) (hx : ev x = .int .u32 m) (hy : ev y = .int .u32 n) : (execOp ev o).run Tryd.prog w = .ok (.value (.int .u32 (bits .or .u32 m n))) w := by
  unfold execOp
  rw [ho]
  go_simp
theorem not_u {m : Int} (ho : o.op = .unOp .xor 99 x) (hx : ev x = .int .u32 m) : (execOp ev o).run Tryd.prog w = .ok (.value (.int .u32 (bits .xor .u32 IntKind.u32.max m))) w := by
  unfold execOp
  rw [ho]
  go_simp
  rw [if_neg (by decide)]
theorem shr_u {m : Int} {n : Nat} (ho : o.op = .binOp .shr 99 x (.const (.int .u64 n)) 110) (hev : ev (.const (.int .u64 n)) = .int .u64 n) (hx : ev x = .int .u32 m) (hn : n < 32) : (execOp ev o).run Tryd.prog w = .ok (.value (.int .u32 (m / 2 ^ n))) w := by
  unfold execOp
  rw [ho]
  go_simp
theorem shl_u {m : Int} {n : Nat} (ho : o.op = .binOp .shl 99 x (.const (.int .u64 n)) 110) (hev : ev (.const (.int .u64 n)) = .int .u64 n) (hx : ev x = .int .u32 m) (hn : n < 32) : (execOp ev o).run Tryd.prog w = .ok (.value (.int .u32 (m * 2 ^ n % 4294967296))) w := by
  have e : IntKind.u32.wrap (m * 2 ^ n) = m * 2 ^ n % 4294967296 := IntKind.wrap_u32 _
  unfold execOp
  rw [ho]
  go_simp
theorem conv_up {m : Int} (ho : o.op = .convert 5 99 x) (hx : ev x = .int .u8 m) (hb : 0 ≤ m ∧ m ≤ 255) : (execOp ev o).run Tryd.prog w = .ok (.value (.int .u32 m)) w := by
  have e : IntKind.u32.wrap m = m := by rw [IntKind.wrap_u32]; omega
  unfold execOp
  rw [ho]
  go_simp
theorem conv_down {m : Int} (ho : o.op = .convert 99 5 x) (hx : ev x = .int .u32 m) : (execOp ev o).run Tryd.prog w = .ok (.value (.int .u8 (m % 256))) w := by
  have e : IntKind.u8.wrap m = m % 256 := IntKind.wrap_u8 _
  unfold execOp
  rw [ho]
  go_simp
theorem idx_w {g i n c : Nat} (ho : o.op = .indexAddr 114 x y) (hx : ev x = .slice (some ⟨g, 0, none⟩) n c) (hy : ev y = .int .i64 i) (hi : i < n) : (execOp ev o).run Tryd.prog w = .ok (.value (.pointer (some ⟨g, i, none⟩))) w := by
  unfold execOp
  rw [ho]
  go_simp
theorem idx_b {g ao i n c : Nat} (ho : o.op = .indexAddr 60 x y) (hx : ev x = .slice (some ⟨g, ao, none⟩) n c) (hy : ev y = .int .i64 i) (hi : i < n) : (execOp ev o).run Tryd.prog w = .ok (.value (.pointer (some ⟨g, ao + i, none⟩))) w := by
  unfold execOp
  rw [ho]
  go_simp
theorem load_u {a : Addr} {n : Int} (ho : o.op = .load 99 x) (hx : ev x = .pointer (some a)) (hc : w.cell? a = some (.int .u32 n)) : (execOp ev o).run Tryd.prog w = .ok (.value (.int .u32 n)) w := by
  unfold execOp
  rw [ho]
  go_simp
theorem load_b {a : Addr} {n : Int} (ho : o.op = .load 5 x) (hx : ev x = .pointer (some a)) (hc : w.cell? a = some (.int .u8 n)) : (execOp ev o).run Tryd.prog w = .ok (.value (.int .u8 n)) w := by
  unfold execOp
  rw [ho]
  go_simp
theorem cf_rot : ∀ args w, (callFunc 78 args).run Tryd.prog w = .ok (.enter 78 args) w := fun args w => by go_simp
theorem call2 {k : Nat} {ts : Array TypeId} {n l : Value} (ho : o.op = .call ⟨.value (.func k), #[x, y], ts⟩) (hf : ev (.func k) = .func (.func k) #[] #[]) (hx : ev x = n) (hy : ev y = l) (hk : ∀ args w, (callFunc k args).run Tryd.prog w = .ok (.enter k args) w) : (execOp ev o).run Tryd.prog w = .ok (.enter k #[n, l]) w := by
  unfold execOp
  rw [ho]
  go_simp
theorem build_w {v : Int} (ho : o.op = .buildSlice 114 1 #[(0, x)]) (hx : ev x = .int .u32 v) : (execOp ev o).run Tryd.prog w = .ok (.value (.slice (some ⟨w.heap.size, 0, none⟩) 1 1)) (w.alloc (.cells #[.int .u32 v] 99)) := by
  unfold execOp
  rw [ho]
  go_simp
theorem build_b4 {x1 x2 x3 : Operand} {a b c d : Int} (ho : o.op = .buildSlice 60 4 #[(0, x), (1, x1), (2, x2), (3, x3)]) (hx : ev x = .int .u8 a) (hx1 : ev x1 = .int .u8 b) (hx2 : ev x2 = .int .u8 c) (hx3 : ev x3 = .int .u8 d) :
    (execOp ev o).run Tryd.prog w = .ok (.value (.slice (some ⟨w.heap.size, 0, none⟩) 4 4)) (w.alloc (.cells #[.int .u8 a, .int .u8 b, .int .u8 c, .int .u8 d] 5)) := by
  unfold execOp
  rw [ho]
  go_simp
theorem build_w8 {x1 x2 x3 x4 x5 x6 x7 : Operand} {a b c d e f g h : Int} (ho : o.op = .buildSlice 114 8 #[(0, x), (1, x1), (2, x2), (3, x3), (4, x4), (5, x5), (6, x6), (7, x7)]) (hx : ev x = .int .u32 a) (hx1 : ev x1 = .int .u32 b) (hx2 : ev x2 = .int .u32 c) (hx3 : ev x3 = .int .u32 d)
    (hx4 : ev x4 = .int .u32 e) (hx5 : ev x5 = .int .u32 f) (hx6 : ev x6 = .int .u32 g) (hx7 : ev x7 = .int .u32 h) :
    (execOp ev o).run Tryd.prog w = .ok (.value (.slice (some ⟨w.heap.size, 0, none⟩) 8 8)) (w.alloc (.cells #[.int .u32 a, .int .u32 b, .int .u32 c, .int .u32 d, .int .u32 e, .int .u32 f, .int .u32 g, .int .u32 h] 99)) := by
  unfold execOp
  rw [ho]
  go_simp
theorem app {t : TypeId} {v s v' : Value} {w' : World} (ho : o.op = .call { callee := .builtin .append, args := #[x, y], argTypes := #[t, t] }) (hx : ev x = v) (hy : ev y = s) (hr : (Builtin.append_ #[t, t] o.type #[v, s]).run Tryd.prog w = .ok v' w') :
    (execOp ev o).run Tryd.prog w = .ok (.value v') w' := by
  unfold execOp
  simp only [ho, resolve, invoke, builtin, Sem.run_bind, Sem.run_pure, Result.andThen_ok, List.map_toArray, List.map_cons, List.map_nil, hx, hy, hr]
end OP
end Go.Proofs.YtcbckcojebanaaaDoor

/-
  Package digest: Leaf, Node, by marked and its closure: what they return; only new memory is written.
-/
import Derived.Test.YtnlphbfjeekooaaGreatDoorFs0
import Derived.Test.YtnlphbfjeekooaaGreatDoorFact8
import Derived.RangeFuncCalls
import Derived.Laws.IdiomStrings
namespace Go.Proofs.YtnlphbfjeekooaaGreatDoor
open Go.RowKit RG
section
variable {ev : Operand → Value} {o : Oper} {x y : Operand} {w : World}
theorem op_addsD {a b : ByteArray} (ho : o.op = .binOp .add 9 x y 9) (hx : ev x = .string a) (hy : ev y = .string b) (h : a.size + b.size ≤ 9223372036854775807) : (execOp ev o).run Tryz.prog w = .ok (.value (.string (a ++ b))) w := by
  have h2 : ¬ (9223372036854775807 < a.size + b.size) := by omega
  unfold execOp
  rw [ho]
  simp only [hx, hy]
  go_simp
end
theorem cf_joinD : ∀ args w, (callFunc 119 args).run Tryz.prog w = .ok (.enter 119 args) w := fun args w => by go_simp
theorem cf_sumD : ∀ args w, (callFunc 58 args).run Tryz.prog w = .ok (.enter 58 args) w := fun args w => by go_simp
theorem djoin_any : ∀ l : List ByteArray, Lib.join (l.map (·.data.toList)) (⟨#[]⟩ : ByteArray).data.toList = l.flatMap fun x => x.data.toList
  | [] => by simp [Lib.join, List.intercalate]
  | [a] => by simp [Lib.join, List.intercalate]
  | a :: b :: l => by
    have := djoin_any (b :: l)
    simp [Lib.join, List.intercalate] at this ⊢
    exact this
namespace RW
/-- the digests of an entry, and of two parts -/
def leafB (K : Nat → Int) (s : ByteArray) : ByteArray := ⟨(sha K (0 :: s.data.toList)).toArray⟩
def nodeB (K : Nat → Int) (a b : ByteArray) : ByteArray := ⟨(sha K (1 :: (a.data.toList ++ b.data.toList))).toArray⟩
end RW
set_option maxRecDepth 10000 in
set_option maxHeartbeats 2000000 in
theorem dmarked1_any (m : ByteArray) (l : List ByteArray) (p g : Nat) (hm : m.size ≤ 10) (hl0 : 0 < l.length) (hln : l.length ≤ 10) (hs : (l.flatMap fun x => x.data.toList).length ≤ 1000000000) (K : Nat → Int) (ks : Array Value) (hks : RW.WsOk ks K) (w : World) (hK : KLaid w ks) (hp : w.heap[p]? = some (.cells #[.string m] 9 (0, 0))) (hg : w.heap[g]? = some (.cells (l.map Value.string).toArray 9 (0, 0))) :
    Calls Tryz.prog 118 #[.slice (some ⟨g, 0, none⟩) l.length l.length, .pointer (some ⟨p, 0, none⟩)] w fun e w' => e = .returned (.string ⟨(RW.sha K (m.data.toList ++ (l.flatMap fun x => x.data.toList))).toArray⟩) ∧ Below w.heap.size w w' := by
  obtain ⟨J, hJ⟩ : ∃ J : ByteArray, J = ⟨(l.flatMap fun x => x.data.toList).toArray⟩ := ⟨_, rfl⟩
  have hJl : J.data.toList = l.flatMap fun x => x.data.toList := by rw [hJ]
  have hJs : J.size ≤ 1000000000 := by
    rw [← size_list, hJl]
    exact hs
  obtain ⟨ln, hln2⟩ : ∃ n, n = l.length := ⟨_, rfl⟩
  have hlnH := hide hln2
  rw [← hln2] at hl0 hln ⊢
  have hK0 := hide (fun W (hW : Below w.heap.size w W) => RW.klaid hK hW)
  have hc := hide (fun W (hW : Below w.heap.size w W) => (show W.cell? ⟨p, 0, none⟩ = some (.string m) from cellAt ((hW.block _ (Array.getElem?_eq_some_iff.1 hp).1).trans hp) 0))
  have hj := hide (fun W (hW : Below w.heap.size w W) => (show Calls Tryz.prog 119 #[.slice (some ⟨g, 0, none⟩) ln ln, .string ⟨#[]⟩] W fun e w' => e = .returned (.string J) ∧ Below W.heap.size W w' from by
    have hg' := (hW.block _ (Array.getElem?_eq_some_iff.1 hg).1).trans hg
    have := SH.strings_Join g 0 ln l ⟨#[]⟩ W (fun j x hx => by
      rw [Nat.zero_add, cellAt hg' j]
      simp [hx]) (Array.getElem?_eq_some_iff.1 hg').1 (by omega) (Nat.le_of_eq hln2.symm) (by rw [djoin_any, ← hJl, size_list]; omega)
    rw [djoin_any, ← hJ] at this
    rw [show (Value.slice (some ⟨g, 0, none⟩) ln ln) = .slice (some ⟨g, 0, none⟩) l.length ln by rw [hln2]]
    exact this))
  have hSm := hide (fun W (hW : Below w.heap.size w W) => sum_any (m ++ J) (by rw [ByteArray.size_append]; omega) K ks hks W (hK0.out W hW))
  have hl : (m ++ J).data.toList = m.data.toList ++ (l.flatMap fun x => x.data.toList) := by rw [app_data, hJl]
  rw [hl] at hSm
  have hb := hide (show m.size + J.size ≤ 9223372036854775807 by omega)
  obtain ⟨R, hR⟩ : ∃ R : ByteArray, R = ⟨(RW.sha K (m.data.toList ++ (l.flatMap fun x => x.data.toList))).toArray⟩ := ⟨_, rfl⟩
  rw [← hR] at hSm ⊢
  clear hJ hJl hl hR hK hp hg hJs hln2 hs
  go_enter Tryz.func118, Tryz.ntmps118
  go_upto_region 1 with fail
  refine wp_region_k (fun _ W => Below w.heap.size w W) (fun _ => True) [2, 4] (.op 0 (.op 1 (.op 2 (.op 3 (.op 4 (.op 5 .nil)))))) (by kernel_rfl) (by kernel_rfl) (by rfl) (by kernel_rfl) (Below.refl w.heap.size w).drew trivial ?_
  refine k_val (.string m) (by apply opN; repeat' (first | apply OpAt.z | apply OpAt.s)) (by rfl) (by rfl) (fun _ W hS => op_ld rfl rfl (str_ld (hc.out W hS))) ?_
  simp only [Act.put, List.setIfInBounds_toArray, List.set_cons_zero, List.set_cons_succ]
  refine k_val (.slice (some ⟨g, 0, none⟩) ln ln) (by apply opN; repeat' (first | apply OpAt.z | apply OpAt.s)) (by rfl) (by rfl) (fun _ W hS => op_mv rfl rfl) ?_
  simp only [Act.put, List.setIfInBounds_toArray, List.set_cons_zero, List.set_cons_succ]
  refine k_step (fun K' u => u = .string J ∧ K' = fun _ => True) (by apply opN; repeat' (first | apply OpAt.z | apply OpAt.s)) (by rfl) (by rfl) (by rfl) (fun W hCW hK' => ?_) ?_
  · refine op_x2 rfl rfl rfl rfl cf_joinD ?_
    refine (hj.out W hCW).mono ?_
    rintro e W' ⟨rfl, h5⟩
    exact ⟨_, rfl, hCW.trans (h5.mono hCW.size), _, trivial, rfl, rfl⟩
  rintro _ _ ⟨rfl, rfl⟩
  simp only [Act.put, List.setIfInBounds_toArray, List.set_cons_zero, List.set_cons_succ]
  refine k_val (.string (m ++ J)) (by apply opN; repeat' (first | apply OpAt.z | apply OpAt.s)) (by rfl) (by rfl) (fun _ W hS => op_addsD rfl rfl rfl hb.out) ?_
  simp only [Act.put, List.setIfInBounds_toArray, List.set_cons_zero, List.set_cons_succ]
  refine k_step (fun K' u => u = .string R ∧ K' = fun _ => True) (by apply opN; repeat' (first | apply OpAt.z | apply OpAt.s)) (by rfl) (by rfl) (by rfl) (fun W hCW hK' => ?_) ?_
  · refine op_x1 rfl rfl rfl cf_sumD ?_
    refine (hSm.out W hCW).mono ?_
    rintro e W' ⟨rfl, h5⟩
    exact ⟨_, rfl, hCW.trans (h5.mono hCW.size), _, trivial, rfl, rfl⟩
  rintro _ _ ⟨rfl, rfl⟩
  simp only [Act.put, List.setIfInBounds_toArray, List.set_cons_zero, List.set_cons_succ]
  refine k_val (.string R) (by apply opN; repeat' (first | apply OpAt.z | apply OpAt.s)) (by rfl) (by rfl) (fun _ W hS => op_asg rfl rfl) ?_
  simp only [Act.put, List.setIfInBounds_toArray, List.set_cons_zero, List.set_cons_succ]
  refine k_nil ?_
  intro W hCW _
  have hE := hide hCW
  clear hCW
  go_wp2
  go_ret
  exact ⟨rfl, hE.out⟩
theorem dmarked_any (m : ByteArray) (w : World) : Calls Tryz.prog 91 #[.string m] w fun e w' => e = .returned (.func (.func 118) #[] #[.pointer (some ⟨w.heap.size, 0, none⟩)]) ∧ w.alloc (.cells #[.string m] 9) = w' := by
  go_enter Tryz.func91, Tryz.ntmps91
  go_wp2
  go_ret
  exact ⟨rfl, rfl⟩
set_option maxRecDepth 10000 in
set_option maxHeartbeats 2000000 in
theorem leaf_any (s : ByteArray) (hs : s.size ≤ 1000000000) (K : Nat → Int) (ks : Array Value) (hks : RW.WsOk ks K) (w : World) (hK : KLaid w ks) :
    Calls Tryz.prog 63 #[.string s] w fun e w' => e = .returned (.string (RW.leafB K s)) ∧ Below w.heap.size w w' := by
  obtain ⟨p, hp⟩ : ∃ p, p = w.heap.size := ⟨_, rfl⟩
  have hB2 := hide (alloc_bel (alloc_bel (Below.refl w.heap.size w) (Nat.le_refl _) (.cells #[.string ⟨#[0]⟩] 9)) (Nat.le_refl _) (.cells #[.string s] 9))
  have hp2 := hide ((Below.heap_alloc (w.alloc (.cells #[.string ⟨#[0]⟩] 9)) (.cells #[.string s] 9) w.heap.size (by simp)).trans (alloc_at1 w (.cells #[.string ⟨#[0]⟩] 9)))
  have hg2 := hide (alloc_at1 (w.alloc (.cells #[.string ⟨#[0]⟩] 9)) (.cells #[.string s] 9))
  have hC := hide (dmarked1_any ⟨#[0]⟩ [s] w.heap.size (w.alloc (.cells #[.string ⟨#[0]⟩] 9)).heap.size (by decide) (by simp) (by simp) (by simp only [List.flatMap_cons, List.flatMap_nil, List.append_nil, List.length_append, size_list]; exact hs) K ks hks _ (RW.klaid hK hB2.out) hp2.out hg2.out)
  rw [alloc_size, ← hp] at hC
  have hM := hide (dmarked_any ⟨#[0]⟩ w)
  rw [← hp] at hM
  obtain ⟨R, hR'⟩ : ∃ R : ByteArray, R = RW.leafB K s := ⟨_, rfl⟩
  rw [show (⟨(RW.sha K ((⟨#[0]⟩ : ByteArray).data.toList ++ (List.flatMap (fun x => x.data.toList) [s]))).toArray⟩ : ByteArray) = R by rw [hR']; unfold RW.leafB; simp] at hC
  rw [← hR']
  have hpH := hide hp
  clear hR' hp
  go_enter Tryz.func63, Tryz.ntmps63
  go_wp2_with (first
    | (go_at_call 91; refine hM.out.mono ?_; rintro e w1 ⟨rfl, rfl⟩)
    | (go_at_call 118; rw [← hpH.out]; refine hC.out.mono ?_; rintro e w3 ⟨rfl, hB3⟩; have hB3H := hide (hB2.out.trans (hB3.mono hB2.out.size)); clear hB3))
  go_ret
  exact ⟨rfl, hB3H.out⟩
set_option maxRecDepth 10000 in
set_option maxHeartbeats 2000000 in
theorem node_any (a b : ByteArray) (hs : a.size + b.size ≤ 1000000000) (K : Nat → Int) (ks : Array Value) (hks : RW.WsOk ks K) (w : World) (hK : KLaid w ks) :
    Calls Tryz.prog 64 #[.string a, .string b] w fun e w' => e = .returned (.string (RW.nodeB K a b)) ∧ Below w.heap.size w w' := by
  obtain ⟨p, hp⟩ : ∃ p, p = w.heap.size := ⟨_, rfl⟩
  have hB2 := hide (alloc_bel (alloc_bel (Below.refl w.heap.size w) (Nat.le_refl _) (.cells #[.string ⟨#[1]⟩] 9)) (Nat.le_refl _) (.cells #[.string a, .string b] 9))
  have hp2 := hide ((Below.heap_alloc (w.alloc (.cells #[.string ⟨#[1]⟩] 9)) (.cells #[.string a, .string b] 9) w.heap.size (by simp)).trans (alloc_at1 w (.cells #[.string ⟨#[1]⟩] 9)))
  have hg2 := hide (alloc_at1 (w.alloc (.cells #[.string ⟨#[1]⟩] 9)) (.cells #[.string a, .string b] 9))
  have hC := hide (dmarked1_any ⟨#[1]⟩ [a, b] w.heap.size (w.alloc (.cells #[.string ⟨#[1]⟩] 9)).heap.size (by decide) (by simp) (by simp) (by simp only [List.flatMap_cons, List.flatMap_nil, List.append_nil, List.length_append, size_list]; exact hs) K ks hks _ (RW.klaid hK hB2.out) hp2.out hg2.out)
  rw [alloc_size, ← hp] at hC
  have hM := hide (dmarked_any ⟨#[1]⟩ w)
  rw [← hp] at hM
  obtain ⟨R, hR'⟩ : ∃ R : ByteArray, R = RW.nodeB K a b := ⟨_, rfl⟩
  rw [show (⟨(RW.sha K ((⟨#[1]⟩ : ByteArray).data.toList ++ (List.flatMap (fun x => x.data.toList) [a, b]))).toArray⟩ : ByteArray) = R by rw [hR']; unfold RW.nodeB; simp] at hC
  rw [← hR']
  have hpH := hide hp
  clear hR' hp
  go_enter Tryz.func64, Tryz.ntmps64
  go_wp2_with (first
    | (go_at_call 91; refine hM.out.mono ?_; rintro e w1 ⟨rfl, rfl⟩)
    | (go_at_call 118; rw [← hpH.out]; refine hC.out.mono ?_; rintro e w3 ⟨rfl, hB3⟩; have hB3H := hide (hB2.out.trans (hB3.mono hB2.out.size)); clear hB3))
  go_ret
  exact ⟨rfl, hB3H.out⟩
end Go.Proofs.YtnlphbfjeekooaaGreatDoor

/-
  slices.Backward over strings: the elements come from the last one on, whatever each round does.
-/
namespace Go.Proofs.YtnlphbfjeekooaaGreatDoor
open Go.RowKit Go.Shelf RG
theorem sbackward_any (a : Option Addr) (n c : Nat) (w : World) : Calls Tryz.prog 65 #[.slice a n c] w fun e w' => e = .returned (.func (.func 92) #[] #[.pointer (some ⟨w.heap.size, 0, none⟩)]) ∧ w' = w.alloc (.cells #[.slice a n c] 27) := by
  go_enter Tryz.func65, Tryz.ntmps65
  go_wp2
  go_ret
  exact ⟨rfl, rfl⟩
attribute [local go_sem] Oper.semAt_some
set_option maxRecDepth 100000 in
set_option maxHeartbeats 4000000 in
theorem bwd1_in (n : Nat) (hn : 2 ≤ n) (Bc ob lp : Nat) (a : Option Addr) (c : Nat) (l : List ByteArray) (hlen : l.length ≤ 1000000) (J : Nat → World → Prop) (W : World) (hc : W.heap[Bc]? = some (.cells #[.slice a l.length c] 27 (0, 0))) (ho1 : ob ≠ Bc)
    (hK : ∀ W', (∀ i, i < W.heap.size → i ≠ ob → W'.heap[i]? = W.heap[i]?) → StrR W' (.slice a l.length c) l) (h0 : J 0 W)
    (hY : ∀ j s W', l[l.length - 1 - j]? = some s → j < l.length → W.heap.size ≤ W'.heap.size → J j W' → YieldAt Fence.wide (n - 1) Tryz.prog lp #[.int .i64 ((l.length : Int) - 1 - (j : Int)), .string s] W' fun e W'' => e = .returned (.bool true) ∧ J (j + 1) W'' ∧ ChgS (fun i => i = ob ∨ W.heap.size ≤ i) W' W'') :
    CallsIn Fence.wide n Tryz.prog 92 #[.func (.yield lp) #[] #[], .pointer (some ⟨Bc, 0, none⟩)] W fun e W' => (∃ v, e = .returned v) ∧ J l.length W' := by
  have hcH := hide hc
  have hY := hide hY
  have hK := hide hK
  have cB : W.cell? ⟨Bc, 0, none⟩ = some (.slice a l.length c) := cellAt hc 0
  obtain ⟨m, hm⟩ : ∃ m, m = l.length := ⟨_, rfl⟩
  have hmH := hide hm
  rw [← hm] at hlen cB hY ⊢
  clear hc hm
  refine callsIn_of_wp Tryz.func92 rfl trivial ?_ rfl
  simp only [Tryz.ntmps92, List.size_toArray, List.length_cons, List.length_nil, Nat.reduceAdd, Nat.reduceSub, Array.replicate_succ, Array.replicate_zero, List.push_toArray, List.append_toArray, List.nil_append, List.cons_append]
  gi_wp2
  clear cB
  gi_loopw [3] (fun i wr => ∃ (j : Nat) (t : Int), i = .int .i64 t ∧ t = (m : Int) - 1 - (j : Int) ∧ j ≤ m ∧ Hid (J j wr ∧ ChgS (fun i => i = ob ∨ W.heap.size ≤ i) W wr)) (fun i _ => (intOf i + 1).toNat)
  case atStart => exact ⟨0, (m : Int) - 1, by go_num, by omega, Nat.zero_le _, ⟨h0, ChgS.refl _ _⟩⟩
  case round =>
    obtain ⟨j, t, rfl, ht, hj, hQ⟩ := hrel
    obtain ⟨wo, hwo⟩ : ∃ wo, wo = wr := ⟨_, rfl⟩
    subst hwo
    have htH := hide ht
    have hJ := hide hQ.out.1
    have hC := hide hQ.out.2
    clear hQ h0
    by_cases hjm : j < m
    · have t0 : (0 : Int) ≤ t := by omega
      have t1 : t < (m : Int) := by omega
      obtain ⟨q, hq⟩ : ∃ q : Nat, t = (q : Int) := ⟨m - 1 - j, by omega⟩
      have hqq : q = l.length - 1 - j := by rw [← hmH.out]; omega
      obtain ⟨s, hs⟩ : ∃ s, l[q]? = some s := ⟨_, List.getElem?_eq_getElem (by rw [← hmH.out]; omega)⟩
      have hold : ∀ i, i < W.heap.size → i ≠ ob → wo.heap[i]? = W.heap[i]? := fun i hi hne => hC.out.block i hi (by rintro (h | h) <;> omega)
      obtain ⟨g0, o0, c', e', hcell⟩ := strR_cell (W' := wo) (hK.out wo hold) hs
      cases e'
      have hc := hcell wo (Below.refl _ _)
      have cB := cellAt ((hold Bc (Array.getElem?_eq_some_iff.1 hcH.out).1 (Ne.symm ho1)).trans hcH.out) 0
      obtain ⟨fn, tmps, assign, body, hy, hR⟩ := hY.out j s wo (by rw [hqq] at hs; rw [hmH.out]; exact hs) hjm hC.out.size hJ.out
      have hRH := hide hR
      subst hq
      rw [← htH.out] at hy
      rw [← hmH.out] at cB
      have hq2 : q < m := by omega
      clear hs hold hcell hR hqq ht
      gi_wp2
      refine ⟨fun _ => by omega, hRH.out.mono ?_⟩
      rintro e W3 ⟨rfl, hJ3, hC3⟩
      have hQ3 := hide (show J (j + 1) W3 ∧ ChgS (fun i => i = ob ∨ W.heap.size ≤ i) W W3 from ⟨hJ3, hC.out.trans hC3⟩)
      clear hJ3 hC3 hRH
      gi_wp2
      go_roundw
      case rel => exact ⟨j + 1, (q : Int) - 1, by go_num, by have := htH.out; omega, by omega, hQ3⟩
      case measure => simp [intOf] <;> omega
    · obtain rfl : j = m := by omega
      have t0 : ¬ (0 : Int) ≤ t := by omega
      gi_wp2
      go_end0
      exact ⟨⟨_, rfl⟩, hJ.out⟩
end Go.Proofs.YtnlphbfjeekooaaGreatDoor

/-
  The root of a list, plain: the stack of complete parts; what it keeps: no program in sight.
-/
namespace Go.Proofs.YtnlphbfjeekooaaGreatDoor.RW
open Go Go.RowKit
theorem sha_lenD (K : Nat → Int) (l : List UInt8) : (sha K l).length = 32 := by simp [sha, dig]
theorem leafB_size (K : Nat → Int) (s : ByteArray) : (leafB K s).size = 32 := by
  show (sha K _).toArray.size = 32
  rw [List.size_toArray, sha_lenD]
theorem nodeB_size (K : Nat → Int) (a b : ByteArray) : (nodeB K a b).size = 32 := by
  show (sha K _).toArray.size = 32
  rw [List.size_toArray, sha_lenD]
/-- a part comes onto the stack, the last one first -/
def mrg (K : Nat → Int) (x : ByteArray × Nat) : List (ByteArray × Nat) → List (ByteArray × Nat)
  | [] => [x]
  | y :: l => if y.2 = x.2 then mrg K (nodeB K y.1 x.1, 2 * x.2) l else x :: y :: l
def stk (K : Nat → Int) (l : List ByteArray) : List (ByteArray × Nat) := l.foldl (fun st s => mrg K (leafB K s, 1) st) []
/-- the root of what is on the stack -/
def rootS (K : Nat → Int) : List (ByteArray × Nat) → ByteArray
  | [] => ⟨(sha K []).toArray⟩
  | x :: st => st.foldl (fun acc r => nodeB K r.1 acc) x.1
def rootB (K : Nat → Int) (l : List ByteArray) : ByteArray := rootS K (stk K l)
def sumS (l : List (ByteArray × Nat)) : Nat := (l.map (·.2)).sum
theorem sumS_cons (x : ByteArray × Nat) (l : List (ByteArray × Nat)) : sumS (x :: l) = x.2 + sumS l := rfl
/-- parts of digests, of at least one entry each -/
def StOk (l : List (ByteArray × Nat)) : Prop := ∀ x ∈ l, x.1.size = 32 ∧ 1 ≤ x.2
theorem mrg_ok (K : Nat → Int) : ∀ (l : List (ByteArray × Nat)) (x : ByteArray × Nat), x.1.size = 32 → 1 ≤ x.2 → StOk l → sumS (mrg K x l) = x.2 + sumS l ∧ StOk (mrg K x l)
  | [], x, h1, h2, _ => ⟨rfl, fun z hz => by rw [List.mem_singleton.1 hz]; exact ⟨h1, h2⟩⟩
  | y :: l, x, h1, h2, h => by
    unfold mrg
    split
    · rename_i e
      obtain ⟨g1, g2⟩ := mrg_ok K l (nodeB K y.1 x.1, 2 * x.2) (nodeB_size _ _ _) (show 1 ≤ 2 * x.2 by omega) (fun z hz => h z (by simp [hz]))
      refine ⟨?_, g2⟩
      rw [g1, sumS_cons, e]
      show 2 * x.2 + sumS l = _
      omega
    · refine ⟨rfl, fun z hz => ?_⟩
      rcases List.mem_cons.1 hz with rfl | hz
      · exact ⟨h1, h2⟩
      · exact h z hz
theorem stk_snoc (K : Nat → Int) (l : List ByteArray) (s : ByteArray) : stk K (l ++ [s]) = mrg K (leafB K s, 1) (stk K l) := by unfold stk; rw [List.foldl_append]; rfl
theorem stk_ok (K : Nat → Int) (l : List ByteArray) : sumS (stk K l) = l.length ∧ StOk (stk K l) := by
  have key : ∀ n, n ≤ l.length → sumS (stk K (l.take n)) = n ∧ StOk (stk K (l.take n)) := by
    intro n
    induction n with
    | zero => intro _; exact ⟨rfl, fun x hx => by cases hx⟩
    | succ n ih =>
      intro hn
      obtain ⟨h1, h2⟩ := ih (by omega)
      rw [List.take_succ_eq_append_getElem (by omega), stk_snoc]
      obtain ⟨g1, g2⟩ := mrg_ok K (stk K (l.take n)) (leafB K l[n], 1) (leafB_size _ _) (Nat.le_refl _) h2
      exact ⟨by rw [g1, h1]; show 1 + n = _; omega, g2⟩
  have := key l.length (Nat.le_refl _)
  rwa [List.take_length] at this
theorem len_sum : ∀ (l : List (ByteArray × Nat)), StOk l → l.length ≤ sumS l
  | [], _ => Nat.zero_le _
  | x :: l, h => by
    have h1 := len_sum l (fun z hz => h z (by simp [hz]))
    have h2 := (h x (by simp)).2
    rw [sumS_cons, List.length_cons]
    omega
/-- the stack's rows, the first part first -/
def wholes (l : List (ByteArray × Nat)) : List ByteArray := (l.map (·.1)).reverse
def sizesN (l : List (ByteArray × Nat)) : List Nat := (l.map (·.2)).reverse
theorem wholes_len (l : List (ByteArray × Nat)) : (wholes l).length = l.length := by simp [wholes]
theorem sizesN_len (l : List (ByteArray × Nat)) : (sizesN l).length = l.length := by simp [sizesN]
theorem wholes_cons (x : ByteArray × Nat) (l : List (ByteArray × Nat)) : wholes (x :: l) = wholes l ++ [x.1] := by simp [wholes]
theorem sizesN_cons (x : ByteArray × Nat) (l : List (ByteArray × Nat)) : sizesN (x :: l) = sizesN l ++ [x.2] := by simp [sizesN]
theorem wholes_last (x : ByteArray × Nat) (l : List (ByteArray × Nat)) : (wholes (x :: l))[l.length]? = some x.1 := by rw [wholes_cons, List.getElem?_append_right (by rw [wholes_len]; omega), wholes_len, Nat.sub_self]; rfl
theorem sizesN_last (x : ByteArray × Nat) (l : List (ByteArray × Nat)) : (sizesN (x :: l))[l.length]? = some x.2 := by rw [sizesN_cons, List.getElem?_append_right (by rw [sizesN_len]; omega), sizesN_len, Nat.sub_self]; rfl
theorem wholes_two (x y : ByteArray × Nat) (l : List (ByteArray × Nat)) : (wholes (x :: y :: l))[l.length]? = some y.1 := by rw [wholes_cons, List.getElem?_append_left (by rw [wholes_len]; simp), wholes_last]
theorem sizesN_two (x y : ByteArray × Nat) (l : List (ByteArray × Nat)) : (sizesN (x :: y :: l))[l.length]? = some y.2 := by rw [sizesN_cons, List.getElem?_append_left (by rw [sizesN_len]; simp), sizesN_last]
theorem wholes_cut (x y : ByteArray × Nat) (l : List (ByteArray × Nat)) : (wholes (x :: y :: l)).take l.length = wholes l := by rw [wholes_cons, wholes_cons, List.append_assoc, List.take_append_of_le_length (by rw [wholes_len]; omega), List.take_of_length_le (by rw [wholes_len]; omega)]
theorem sizesN_cut (x y : ByteArray × Nat) (l : List (ByteArray × Nat)) : (sizesN (x :: y :: l)).take l.length = sizesN l := by rw [sizesN_cons, sizesN_cons, List.append_assoc, List.take_append_of_le_length (by rw [sizesN_len]; omega), List.take_of_length_le (by rw [sizesN_len]; omega)]
end Go.Proofs.YtnlphbfjeekooaaGreatDoor.RW

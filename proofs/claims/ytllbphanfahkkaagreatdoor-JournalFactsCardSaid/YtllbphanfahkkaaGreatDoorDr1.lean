/-
  Package digest: Leaf, Node, by marked and its closure: what they return; only new memory is written.
-/
import Derived.Test.YtllbphanfahkkaaGreatDoorFs0
import Derived.Test.YtllbphanfahkkaaGreatDoorMQ3
namespace Go.Proofs.YtllbphanfahkkaaGreatDoor
open Go.RowKit RG
section
variable {ev : Operand → Value} {o : Oper} {x y : Operand} {w : World}
theorem op_addsD {a b : ByteArray} (ho : o.op = .binOp .add 9 x y 9) (hx : ev x = .string a) (hy : ev y = .string b) (h : a.size + b.size ≤ 9223372036854775807) : (execOp ev o).run Tryz.prog w = .ok (.value (.string (a ++ b))) w := by
  have h2 : ¬ (9223372036854775807 < a.size + b.size) := by omega
  unfold execOp
  rw [ho]
  simp only [hx, hy]
  go_simp
end
theorem cf_joinD : ∀ args w, (callFunc 155 args).run Tryz.prog w = .ok (.enter 155 args) w := fun args w => by go_simp
theorem cf_sumD : ∀ args w, (callFunc 149 args).run Tryz.prog w = .ok (.enter 149 args) w := fun args w => by go_simp
theorem djoin_any : ∀ l : List ByteArray, Lib.join (l.map (·.data.toList)) (⟨#[]⟩ : ByteArray).data.toList = l.flatMap fun x => x.data.toList
  | [] => by simp [Lib.join, List.intercalate]
  | [a] => by simp [Lib.join, List.intercalate]
  | a :: b :: l => by
    have := djoin_any (b :: l)
    simp [Lib.join, List.intercalate] at this ⊢
    exact this
namespace RW
/-- the digests of an entry, and of two parts -/
def leafB (K : Nat → Int) (s : ByteArray) : ByteArray := ⟨(sha K (0 :: s.data.toList)).toArray⟩
def nodeB (K : Nat → Int) (a b : ByteArray) : ByteArray := ⟨(sha K (1 :: (a.data.toList ++ b.data.toList))).toArray⟩
end RW
set_option maxRecDepth 10000 in
set_option maxHeartbeats 2000000 in
theorem dmarked1_any (m : ByteArray) (l : List ByteArray) (p g : Nat) (hm : m.size ≤ 10) (hl0 : 0 < l.length) (hln : l.length ≤ 10) (hs : (l.flatMap fun x => x.data.toList).length ≤ 1000000000) (K : Nat → Int) (ks : Array Value) (hks : RW.WsOk ks K) (w : World) (hK : KLaid w ks) (hp : w.heap[p]? = some (.cells #[.string m] 9 (0, 0))) (hg : w.heap[g]? = some (.cells (l.map Value.string).toArray 9 (0, 0))) :
    Calls Tryz.prog 154 #[.slice (some ⟨g, 0, none⟩) l.length l.length, .pointer (some ⟨p, 0, none⟩)] w fun e w' => e = .returned (.string ⟨(RW.sha K (m.data.toList ++ (l.flatMap fun x => x.data.toList))).toArray⟩) ∧ Below w.heap.size w w' := by
  obtain ⟨J, hJ⟩ : ∃ J : ByteArray, J = ⟨(l.flatMap fun x => x.data.toList).toArray⟩ := ⟨_, rfl⟩
  have hJl : J.data.toList = l.flatMap fun x => x.data.toList := by rw [hJ]
  have hJs : J.size ≤ 1000000000 := by
    rw [← size_list, hJl]
    exact hs
  obtain ⟨ln, hln2⟩ : ∃ n, n = l.length := ⟨_, rfl⟩
  have hlnH := hide hln2
  rw [← hln2] at hl0 hln ⊢
  have hK0 := hide (fun W (hW : Below w.heap.size w W) => RW.klaid hK hW)
  have hc := hide (fun W (hW : Below w.heap.size w W) => (show W.cell? ⟨p, 0, none⟩ = some (.string m) from cellAt ((hW.block _ (Array.getElem?_eq_some_iff.1 hp).1).trans hp) 0))
  have hj := hide (fun W (hW : Below w.heap.size w W) => (show Calls Tryz.prog 155 #[.slice (some ⟨g, 0, none⟩) ln ln, .string ⟨#[]⟩] W fun e w' => e = .returned (.string J) ∧ Below W.heap.size W w' from by
    have hg' := (hW.block _ (Array.getElem?_eq_some_iff.1 hg).1).trans hg
    have := SH.strings_Join g 0 ln l ⟨#[]⟩ W (fun j x hx => by
      rw [Nat.zero_add, cellAt hg' j]
      simp [hx]) (Array.getElem?_eq_some_iff.1 hg').1 (by omega) (Nat.le_of_eq hln2.symm) (by rw [djoin_any, ← hJl, size_list]; omega)
    rw [djoin_any, ← hJ] at this
    rw [show (Value.slice (some ⟨g, 0, none⟩) ln ln) = .slice (some ⟨g, 0, none⟩) l.length ln by rw [hln2]]
    exact this))
  have hSm := hide (fun W (hW : Below w.heap.size w W) => sum_any (m ++ J) (by rw [ByteArray.size_append]; omega) K ks hks W (hK0.out W hW))
  have hl : (m ++ J).data.toList = m.data.toList ++ (l.flatMap fun x => x.data.toList) := by rw [app_data, hJl]
  rw [hl] at hSm
  have hb := hide (show m.size + J.size ≤ 9223372036854775807 by omega)
  obtain ⟨R, hR⟩ : ∃ R : ByteArray, R = ⟨(RW.sha K (m.data.toList ++ (l.flatMap fun x => x.data.toList))).toArray⟩ := ⟨_, rfl⟩
  rw [← hR] at hSm ⊢
  clear hJ hJl hl hR hK hp hg hJs hln2 hs
  go_enter Tryz.func154, Tryz.ntmps154
  go_upto_region 1 with fail
  refine wp_region_k (fun _ W => Below w.heap.size w W) (fun _ => True) [2, 4] (.op 0 (.op 1 (.op 2 (.op 3 (.op 4 (.op 5 .nil)))))) (by kernel_rfl) (by kernel_rfl) (by rfl) (by kernel_rfl) (Below.refl w.heap.size w).drew trivial ?_
  refine k_val (.string m) (by apply opN; repeat' (first | apply OpAt.z | apply OpAt.s)) (by rfl) (by rfl) (fun _ W hS => op_ld rfl rfl (str_ld (hc.out W hS))) ?_
  simp only [Act.put, List.setIfInBounds_toArray, List.set_cons_zero, List.set_cons_succ]
  refine k_val (.slice (some ⟨g, 0, none⟩) ln ln) (by apply opN; repeat' (first | apply OpAt.z | apply OpAt.s)) (by rfl) (by rfl) (fun _ W hS => op_mv rfl rfl) ?_
  simp only [Act.put, List.setIfInBounds_toArray, List.set_cons_zero, List.set_cons_succ]
  refine k_step (fun K' u => u = .string J ∧ K' = fun _ => True) (by apply opN; repeat' (first | apply OpAt.z | apply OpAt.s)) (by rfl) (by rfl) (by rfl) (fun W hCW hK' => ?_) ?_
  · refine op_x2 rfl rfl rfl rfl cf_joinD ?_
    refine (hj.out W hCW).mono ?_
    rintro e W' ⟨rfl, h5⟩
    exact ⟨_, rfl, hCW.trans (h5.mono hCW.size), _, trivial, rfl, rfl⟩
  rintro _ _ ⟨rfl, rfl⟩
  simp only [Act.put, List.setIfInBounds_toArray, List.set_cons_zero, List.set_cons_succ]
  refine k_val (.string (m ++ J)) (by apply opN; repeat' (first | apply OpAt.z | apply OpAt.s)) (by rfl) (by rfl) (fun _ W hS => op_addsD rfl rfl rfl hb.out) ?_
  simp only [Act.put, List.setIfInBounds_toArray, List.set_cons_zero, List.set_cons_succ]
  refine k_step (fun K' u => u = .string R ∧ K' = fun _ => True) (by apply opN; repeat' (first | apply OpAt.z | apply OpAt.s)) (by rfl) (by rfl) (by rfl) (fun W hCW hK' => ?_) ?_
  · refine op_x1 rfl rfl rfl cf_sumD ?_
    refine (hSm.out W hCW).mono ?_
    rintro e W' ⟨rfl, h5⟩
    exact ⟨_, rfl, hCW.trans (h5.mono hCW.size), _, trivial, rfl, rfl⟩
  rintro _ _ ⟨rfl, rfl⟩
  simp only [Act.put, List.setIfInBounds_toArray, List.set_cons_zero, List.set_cons_succ]
  refine k_val (.string R) (by apply opN; repeat' (first | apply OpAt.z | apply OpAt.s)) (by rfl) (by rfl) (fun _ W hS => op_asg rfl rfl) ?_
  simp only [Act.put, List.setIfInBounds_toArray, List.set_cons_zero, List.set_cons_succ]
  refine k_nil ?_
  intro W hCW _
  have hE := hide hCW
  clear hCW
  go_wp2
  go_ret
  exact ⟨rfl, hE.out⟩
theorem dmarked_any (m : ByteArray) (w : World) : Calls Tryz.prog 135 #[.string m] w fun e w' => e = .returned (.func (.func 154) #[] #[.pointer (some ⟨w.heap.size, 0, none⟩)]) ∧ w.alloc (.cells #[.string m] 9) = w' := by
  go_enter Tryz.func135, Tryz.ntmps135
  go_wp2
  go_ret
  exact ⟨rfl, rfl⟩
set_option maxRecDepth 10000 in
set_option maxHeartbeats 2000000 in
theorem leaf_any (s : ByteArray) (hs : s.size ≤ 1000000000) (K : Nat → Int) (ks : Array Value) (hks : RW.WsOk ks K) (w : World) (hK : KLaid w ks) :
    Calls Tryz.prog 150 #[.string s] w fun e w' => e = .returned (.string (RW.leafB K s)) ∧ Below w.heap.size w w' := by
  obtain ⟨p, hp⟩ : ∃ p, p = w.heap.size := ⟨_, rfl⟩
  have hB2 := hide (alloc_bel (alloc_bel (Below.refl w.heap.size w) (Nat.le_refl _) (.cells #[.string ⟨#[0]⟩] 9)) (Nat.le_refl _) (.cells #[.string s] 9))
  have hp2 := hide ((Below.heap_alloc (w.alloc (.cells #[.string ⟨#[0]⟩] 9)) (.cells #[.string s] 9) w.heap.size (by simp)).trans (alloc_at1 w (.cells #[.string ⟨#[0]⟩] 9)))
  have hg2 := hide (alloc_at1 (w.alloc (.cells #[.string ⟨#[0]⟩] 9)) (.cells #[.string s] 9))
  have hC := hide (dmarked1_any ⟨#[0]⟩ [s] w.heap.size (w.alloc (.cells #[.string ⟨#[0]⟩] 9)).heap.size (by decide) (by simp) (by simp) (by simp only [List.flatMap_cons, List.flatMap_nil, List.append_nil, List.length_append, size_list]; exact hs) K ks hks _ (RW.klaid hK hB2.out) hp2.out hg2.out)
  rw [alloc_size, ← hp] at hC
  have hM := hide (dmarked_any ⟨#[0]⟩ w)
  rw [← hp] at hM
  obtain ⟨R, hR'⟩ : ∃ R : ByteArray, R = RW.leafB K s := ⟨_, rfl⟩
  rw [show (⟨(RW.sha K ((⟨#[0]⟩ : ByteArray).data.toList ++ (List.flatMap (fun x => x.data.toList) [s]))).toArray⟩ : ByteArray) = R by rw [hR']; unfold RW.leafB; simp] at hC
  rw [← hR']
  have hpH := hide hp
  clear hR' hp
  go_enter Tryz.func150, Tryz.ntmps150
  go_wp2_with (first
    | (go_at_call 135; refine hM.out.mono ?_; rintro e w1 ⟨rfl, rfl⟩)
    | (go_at_call 154; rw [← hpH.out]; refine hC.out.mono ?_; rintro e w3 ⟨rfl, hB3⟩; have hB3H := hide (hB2.out.trans (hB3.mono hB2.out.size)); clear hB3))
  go_ret
  exact ⟨rfl, hB3H.out⟩
set_option maxRecDepth 10000 in
set_option maxHeartbeats 2000000 in
theorem node_any (a b : ByteArray) (hs : a.size + b.size ≤ 1000000000) (K : Nat → Int) (ks : Array Value) (hks : RW.WsOk ks K) (w : World) (hK : KLaid w ks) :
    Calls Tryz.prog 151 #[.string a, .string b] w fun e w' => e = .returned (.string (RW.nodeB K a b)) ∧ Below w.heap.size w w' := by
  obtain ⟨p, hp⟩ : ∃ p, p = w.heap.size := ⟨_, rfl⟩
  have hB2 := hide (alloc_bel (alloc_bel (Below.refl w.heap.size w) (Nat.le_refl _) (.cells #[.string ⟨#[1]⟩] 9)) (Nat.le_refl _) (.cells #[.string a, .string b] 9))
  have hp2 := hide ((Below.heap_alloc (w.alloc (.cells #[.string ⟨#[1]⟩] 9)) (.cells #[.string a, .string b] 9) w.heap.size (by simp)).trans (alloc_at1 w (.cells #[.string ⟨#[1]⟩] 9)))
  have hg2 := hide (alloc_at1 (w.alloc (.cells #[.string ⟨#[1]⟩] 9)) (.cells #[.string a, .string b] 9))
  have hC := hide (dmarked1_any ⟨#[1]⟩ [a, b] w.heap.size (w.alloc (.cells #[.string ⟨#[1]⟩] 9)).heap.size (by decide) (by simp) (by simp) (by simp only [List.flatMap_cons, List.flatMap_nil, List.append_nil, List.length_append, size_list]; exact hs) K ks hks _ (RW.klaid hK hB2.out) hp2.out hg2.out)
  rw [alloc_size, ← hp] at hC
  have hM := hide (dmarked_any ⟨#[1]⟩ w)
  rw [← hp] at hM
  obtain ⟨R, hR'⟩ : ∃ R : ByteArray, R = RW.nodeB K a b := ⟨_, rfl⟩
  rw [show (⟨(RW.sha K ((⟨#[1]⟩ : ByteArray).data.toList ++ (List.flatMap (fun x => x.data.toList) [a, b]))).toArray⟩ : ByteArray) = R by rw [hR']; unfold RW.nodeB; simp] at hC
  rw [← hR']
  have hpH := hide hp
  clear hR' hp
  go_enter Tryz.func151, Tryz.ntmps151
  go_wp2_with (first
    | (go_at_call 135; refine hM.out.mono ?_; rintro e w1 ⟨rfl, rfl⟩)
    | (go_at_call 154; rw [← hpH.out]; refine hC.out.mono ?_; rintro e w3 ⟨rfl, hB3⟩; have hB3H := hide (hB2.out.trans (hB3.mono hB2.out.size)); clear hB3))
  go_ret
  exact ⟨rfl, hB3H.out⟩
end Go.Proofs.YtllbphanfahkkaaGreatDoor

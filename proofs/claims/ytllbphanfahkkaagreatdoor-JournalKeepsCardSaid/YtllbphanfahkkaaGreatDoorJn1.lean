/-
  Package digest: Chain, by marked and its closure: what it returns; only new memory is written.
-/
import Derived.Test.YtllbphanfahkkaaGreatDoorJsh
import Derived.Test.YtllbphanfahkkaaGreatDoorMB
import Derived.Test.YtllbphanfahkkaaGreatDoorOps
import Derived.Test.YtllbphanfahkkaaGreatDoorJnP
namespace Go.Proofs.YtllbphanfahkkaaGreatDoor
open Go.RowKit RG
namespace RW
theorem sha_len (K : Nat → Int) (l : List UInt8) : (sha K l).length = 32 := by simp [sha, dig]
theorem jklaid {B : Nat} {w w' : World} {ks : Array Value} (h : KLaid w ks) (hB : Below B w w') (hb : w.heap.size ≤ B) : KLaid w' ks := by
  obtain ⟨t, fr, h⟩ := h
  exact ⟨t, fr, (hB.block _ (Nat.lt_of_lt_of_le (Array.getElem?_eq_some_iff.1 h).1 hb)).trans h⟩
end RW
theorem jsum_any (s : ByteArray) (hs : s.size ≤ 1099511627776) (K : Nat → Int) (ks : Array Value) (hks : RW.WsOk ks K) (w : World) (hK : KLaid w ks) :
    Calls Tryz.prog 149 #[.string s] w fun e w' => e = .returned (.string ⟨(RW.sha K s.data.toList).toArray⟩) ∧ Below w.heap.size w w' :=
  callsIn_wide.1 (sum_in Fence.wide (show Fence.wide = Fence.wide from rfl) 3 trivial trivial rfl (by omega) s hs K ks hks w hK)
theorem alloc_at1 (w : World) (A : Obj) : (w.alloc A).heap[w.heap.size]? = some A := heap_alloc_new w A
theorem alloc_size (w : World) (A : Obj) : (w.alloc A).heap.size = w.heap.size + 1 := by simp
theorem alloc_bel {B : Nat} {w W : World} (h : Below B w W) (hB : B ≤ w.heap.size) (A : Obj) : Below B w (W.alloc A) := h.alloc (Nat.le_trans hB h.size) A
theorem alloc_old (W : World) (o : Obj) {k : Nat} {x : Obj} (h : W.heap[k]? = some x) : (W.alloc o).heap[k]? = some x := (Below.heap_alloc W o k (Array.getElem?_eq_some_iff.1 h).1).trans h
/-- a value that is a list of strings -/
abbrev StrR (W : World) (v : Value) (l : List ByteArray) : Prop := RowV 1 (fun s => [Value.string s]) W v l
section
variable {ev : Operand → Value} {o : Oper} {x y : Operand} {w : World}
theorem op_adds {a b : ByteArray} (ho : o.op = .binOp .add 9 x y 9) (hx : ev x = .string a) (hy : ev y = .string b) (h : a.size + b.size ≤ 9223372036854775807) : (execOp ev o).run Tryz.prog w = .ok (.value (.string (a ++ b))) w := by
  have h2 : ¬ (9223372036854775807 < a.size + b.size) := by omega
  unfold execOp
  rw [ho]
  simp only [hx, hy]
  go_simp
end
theorem str_ld {W : World} {g i : Nat} {s : ByteArray} (h : W.cell? ⟨g, i, none⟩ = some (.string s)) : (ldRow 9 (.pointer (some ⟨g, i, none⟩))).run Tryz.prog W = .ok (.string s) W := by
  unfold ldRow
  go_simp
theorem cf_join : ∀ args w, (callFunc 155 args).run Tryz.prog w = .ok (.enter 155 args) w := fun args w => by go_simp
theorem cf_sum : ∀ args w, (callFunc 149 args).run Tryz.prog w = .ok (.enter 149 args) w := fun args w => by go_simp
theorem join_two (a b : ByteArray) : Lib.join ([a, b].map (·.data.toList)) (⟨#[]⟩ : ByteArray).data.toList = a.data.toList ++ b.data.toList := by
  simp [Lib.join, List.intercalate]
theorem app_data (a b : ByteArray) : (a ++ b).data.toList = a.data.toList ++ b.data.toList := by simp [ByteArray.data_append]
theorem size_list (a : ByteArray) : a.data.toList.length = a.size := by rw [Array.length_toList]; rfl
set_option maxRecDepth 10000 in
set_option maxHeartbeats 2000000 in
theorem marked1_any (m a b : ByteArray) (p g : Nat) (hm : m.size ≤ 10) (hs : a.size + b.size ≤ 1000000000) (K : Nat → Int) (ks : Array Value) (hks : RW.WsOk ks K) (w : World) (hK : KLaid w ks) (hp : w.heap[p]? = some (.cells #[.string m] 9 (0, 0))) (hg : w.heap[g]? = some (.cells #[.string a, .string b] 9 (0, 0))) :
    Calls Tryz.prog 154 #[.slice (some ⟨g, 0, none⟩) 2 2, .pointer (some ⟨p, 0, none⟩)] w fun e w' => e = .returned (.string ⟨(RW.sha K (m.data.toList ++ (a.data.toList ++ b.data.toList))).toArray⟩) ∧ Below w.heap.size w w' := by
  obtain ⟨J, hJ⟩ : ∃ J : ByteArray, J = ⟨(a.data.toList ++ b.data.toList).toArray⟩ := ⟨_, rfl⟩
  have hJl : J.data.toList = a.data.toList ++ b.data.toList := by rw [hJ]
  have hJs : J.size ≤ 1000000000 := by
    rw [← size_list, hJl, List.length_append, size_list, size_list]
    exact hs
  have hK0 := hide (fun W (hW : Below w.heap.size w W) => RW.jklaid hK hW (Nat.le_refl _))
  have hc := hide (fun W (hW : Below w.heap.size w W) => (show W.cell? ⟨p, 0, none⟩ = some (.string m) from cellAt ((hW.block _ (Array.getElem?_eq_some_iff.1 hp).1).trans hp) 0))
  have hj := hide (fun W (hW : Below w.heap.size w W) => (show Calls Tryz.prog 155 #[.slice (some ⟨g, 0, none⟩) 2 2, .string ⟨#[]⟩] W fun e w' => e = .returned (.string J) ∧ Below W.heap.size W w' from by
    have hg' := (hW.block _ (Array.getElem?_eq_some_iff.1 hg).1).trans hg
    have := SH.strings_Join g 0 2 [a, b] ⟨#[]⟩ W (fun j x hx => by
      rw [Nat.zero_add]
      rcases j with _ | _ | j
      · cases hx; exact cellAt hg' 0
      · cases hx; exact cellAt hg' 1
      · simp at hx) (Array.getElem?_eq_some_iff.1 hg').1 (by show 2 ≤ 140737488355328; decide) (Nat.le_refl 2) (by rw [join_two, ← hJl, size_list]; omega)
    rw [join_two, ← hJ] at this
    exact this))
  have hSm := hide (fun W (hW : Below w.heap.size w W) => jsum_any (m ++ J) (by rw [ByteArray.size_append]; omega) K ks hks W (hK0.out W hW))
  have hl : (m ++ J).data.toList = m.data.toList ++ (a.data.toList ++ b.data.toList) := by rw [app_data, hJl]
  rw [hl] at hSm
  have hb := hide (show m.size + J.size ≤ 9223372036854775807 by omega)
  obtain ⟨R, hR⟩ : ∃ R : ByteArray, R = ⟨(RW.sha K (m.data.toList ++ (a.data.toList ++ b.data.toList))).toArray⟩ := ⟨_, rfl⟩
  rw [← hR] at hSm ⊢
  clear hJ hJl hl hR hK hp hg hJs
  go_enter Tryz.func154, Tryz.ntmps154
  go_upto_region 1 with fail
  refine wp_region_k (fun _ W => Below w.heap.size w W) (fun _ => True) [2, 4] (.op 0 (.op 1 (.op 2 (.op 3 (.op 4 (.op 5 .nil)))))) (by kernel_rfl) (by kernel_rfl) (by rfl) (by kernel_rfl) (Below.refl w.heap.size w).drew trivial ?_
  refine k_val (.string m) (by apply opN; repeat' (first | apply OpAt.z | apply OpAt.s)) (by rfl) (by rfl) (fun _ W hS => op_ld rfl rfl (str_ld (hc.out W hS))) ?_
  simp only [Act.put, List.setIfInBounds_toArray, List.set_cons_zero, List.set_cons_succ]
  refine k_val (.slice (some ⟨g, 0, none⟩) 2 2) (by apply opN; repeat' (first | apply OpAt.z | apply OpAt.s)) (by rfl) (by rfl) (fun _ W hS => op_mv rfl rfl) ?_
  simp only [Act.put, List.setIfInBounds_toArray, List.set_cons_zero, List.set_cons_succ]
  refine k_step (fun K' u => u = .string J ∧ K' = fun _ => True) (by apply opN; repeat' (first | apply OpAt.z | apply OpAt.s)) (by rfl) (by rfl) (by rfl) (fun W hCW hK' => ?_) ?_
  · refine op_x2 rfl rfl rfl rfl cf_join ?_
    refine (hj.out W hCW).mono ?_
    rintro e W' ⟨rfl, h5⟩
    exact ⟨_, rfl, hCW.trans (h5.mono hCW.size), _, trivial, rfl, rfl⟩
  rintro _ _ ⟨rfl, rfl⟩
  simp only [Act.put, List.setIfInBounds_toArray, List.set_cons_zero, List.set_cons_succ]
  refine k_val (.string (m ++ J)) (by apply opN; repeat' (first | apply OpAt.z | apply OpAt.s)) (by rfl) (by rfl) (fun _ W hS => op_adds rfl rfl rfl hb.out) ?_
  simp only [Act.put, List.setIfInBounds_toArray, List.set_cons_zero, List.set_cons_succ]
  refine k_step (fun K' u => u = .string R ∧ K' = fun _ => True) (by apply opN; repeat' (first | apply OpAt.z | apply OpAt.s)) (by rfl) (by rfl) (by rfl) (fun W hCW hK' => ?_) ?_
  · refine op_x1 rfl rfl rfl cf_sum ?_
    refine (hSm.out W hCW).mono ?_
    rintro e W' ⟨rfl, h5⟩
    exact ⟨_, rfl, hCW.trans (h5.mono hCW.size), _, trivial, rfl, rfl⟩
  rintro _ _ ⟨rfl, rfl⟩
  simp only [Act.put, List.setIfInBounds_toArray, List.set_cons_zero, List.set_cons_succ]
  refine k_val (.string R) (by apply opN; repeat' (first | apply OpAt.z | apply OpAt.s)) (by rfl) (by rfl) (fun _ W hS => op_asg rfl rfl) ?_
  simp only [Act.put, List.setIfInBounds_toArray, List.set_cons_zero, List.set_cons_succ]
  refine k_nil ?_
  intro W hCW _
  have hE := hide hCW
  clear hCW
  go_wp2
  go_ret
  exact ⟨rfl, hE.out⟩
theorem marked_any (m : ByteArray) (w : World) : Calls Tryz.prog 135 #[.string m] w fun e w' => e = .returned (.func (.func 154) #[] #[.pointer (some ⟨w.heap.size, 0, none⟩)]) ∧ w.alloc (.cells #[.string m] 9) = w' := by
  go_enter Tryz.func135, Tryz.ntmps135
  go_wp2
  go_ret
  exact ⟨rfl, rfl⟩
set_option maxRecDepth 10000 in
set_option maxHeartbeats 2000000 in
theorem chain_any (h r : ByteArray) (hs : h.size + r.size ≤ 1000000000) (K : Nat → Int) (ks : Array Value) (hks : RW.WsOk ks K) (w : World) (hK : KLaid w ks) :
    Calls Tryz.prog 89 #[.string h, .string r] w fun e w' => e = .returned (.string ⟨(RW.chn (RW.sha K) h.data.toList r).toArray⟩) ∧ Below w.heap.size w w' := by
  obtain ⟨p, hp⟩ : ∃ p, p = w.heap.size := ⟨_, rfl⟩
  have hB2 := hide (alloc_bel (alloc_bel (Below.refl w.heap.size w) (Nat.le_refl _) (.cells #[.string ⟨#[2]⟩] 9)) (Nat.le_refl _) (.cells #[.string h, .string r] 9))
  have hp2 := hide (alloc_old (w.alloc (.cells #[.string ⟨#[2]⟩] 9)) (.cells #[.string h, .string r] 9) (alloc_at1 w (.cells #[.string ⟨#[2]⟩] 9)))
  have hg2 := hide (alloc_at1 (w.alloc (.cells #[.string ⟨#[2]⟩] 9)) (.cells #[.string h, .string r] 9))
  have hC := hide (marked1_any ⟨#[2]⟩ h r w.heap.size (w.alloc (.cells #[.string ⟨#[2]⟩] 9)).heap.size (by decide) hs K ks hks _ (RW.jklaid hK hB2.out (Nat.le_refl _)) hp2.out hg2.out)
  rw [alloc_size, ← hp] at hC
  have hM := hide (marked_any ⟨#[2]⟩ w)
  rw [← hp] at hM
  have hR : RW.sha K ((⟨#[2]⟩ : ByteArray).data.toList ++ (h.data.toList ++ r.data.toList)) = RW.chn (RW.sha K) h.data.toList r := rfl
  rw [hR] at hC
  obtain ⟨R, hR'⟩ : ∃ R : ByteArray, R = ⟨(RW.chn (RW.sha K) h.data.toList r).toArray⟩ := ⟨_, rfl⟩
  rw [← hR'] at hC ⊢
  have hpH := hide hp
  clear hR hR' hp
  go_enter Tryz.func89, Tryz.ntmps89
  go_wp2_with (first
    | (go_at_call 135; refine hM.out.mono ?_; rintro e w1 ⟨rfl, rfl⟩)
    | (go_at_call 154; rw [← hpH.out]; refine hC.out.mono ?_; rintro e w3 ⟨rfl, hB3⟩; have hB3H := hide (hB2.out.trans (hB3.mono hB2.out.size)); clear hB3))
  go_ret
  exact ⟨rfl, hB3H.out⟩
end Go.Proofs.YtllbphanfahkkaaGreatDoor

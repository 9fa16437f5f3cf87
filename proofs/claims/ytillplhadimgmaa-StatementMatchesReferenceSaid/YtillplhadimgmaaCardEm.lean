/-
  StatementMatchesReference: it returns true for every two books, two lists of triples and two integers; the arguments stay.
-/
import Derived.Test.YtillplhadimgmaaRows
import Derived.Test.YtillplhadimgmaaOpY
import Derived.Test.YtillplhadimgmaaSt34
namespace Go.Proofs.Ytillplhadimgmaa.fnStatementMatchesReference
open Go.ChangeShapes Go.WideShapes Go.ChangeAt Go.RowKit
open Go.ChangeMaps (open_string shut_string)
set_option maxRecDepth 100000 in
theorem contract (H : Type) (enc : TypeId × Value → H) (W : World) (base : Nat) (args : Array Value) (ds gs : List (DataW H)) (before : List MemPlace)
    (hval : ∀ (j : Nat) t v, Try.f3.params[j]? = some t → args[j]? = some v → Value.okWide Try.prog W .any base t v)
    (hW : DataW.Whole enc Try.prog Try.f3.params.toList Rows.statementMatchesReferenceSpec.vars false W args.toList ds gs before) :
    Calls Try.prog 3 args W fun e W' => ∃ v, e = .returned v ∧ Rows.statementMatchesReferenceSpec.post enc Try.prog Try.f3 false true false false W args v W' := by
  have hW' := hW
  obtain ⟨p, q, hA0, hV, rfl, hfz, hnd⟩ := hW
  have hA : DataW.TrodAll enc Try.prog W 0 (fun _ => true) true Try.f3.params.toList args.toList ds p := hA0
  rw [Try.params3] at hA hval
  obtain ⟨v0, vs0, d0, ds0, p0, q0, ha0, hd0, hp0, h0, r0⟩ := trodAll_cons hA
  obtain ⟨v1, vs1, d1, ds1, p1, q1, ha1, hd1, hp1, h1, r1⟩ := trodAll_cons r0
  obtain ⟨v2, vs2, d2, ds2, p2, q2, ha2, hd2, hp2, h2, r2⟩ := trodAll_cons r1
  obtain ⟨v3, vs3, d3, ds3, p3, q3, ha3, hd3, hp3, h3, r3⟩ := trodAll_cons r2
  obtain ⟨v4, vs4, d4, ds4, p4, q4, ha4, hd4, hp4, h4, r4⟩ := trodAll_cons r3
  obtain ⟨v5, vs5, d5, ds5, p5, q5, ha5, hd5, hp5, h5, r5⟩ := trodAll_cons r4
  obtain ⟨hvn, hdn, hqn⟩ := trodAll_nil r5
  subst hvn hdn hqn
  subst ha5 hd5 hp5
  subst ha4 hd4 hp4
  subst ha3 hd3 hp3
  subst ha2 hd2 hp2
  subst ha1 hd1 hp1
  obtain rfl : args = #[v0, v1, v2, v3, v4, v5] := by cases args; simp_all
  obtain ⟨rfl, rfl⟩ := trodVars_none hV
  subst hd0 hp0
  clear hA0
  simp only [List.append_nil] at hW'
  have hlt : ∀ x ∈ p0 ++ p1 ++ p2 ++ p3 ++ p4 ++ p5, x.block < W.heap.size := fun x hx => hW'.lt x (by simpa using hx)
  have k0 := h0
  obtain ⟨z0, p0_1, p0_2, p0_3, p0_4, p0_5, n0_1, n0_2, n0_3, n0_4, n0_5, c0_1, c0_2, c0_3, c0_4, c0_5, l0, rfl, rd0, ml0⟩ := open_books (hval 0 28 v0 rfl rfl) h0
  have k1 := h1
  obtain ⟨z1, p1_1, p1_2, p1_3, p1_4, p1_5, n1_1, n1_2, n1_3, n1_4, n1_5, c1_1, c1_2, c1_3, c1_4, c1_5, l1, rfl, rd1, ml1⟩ := open_books (hval 1 28 v1 rfl rfl) h1
  have k2 := h2
  obtain ⟨l2, rd2, bd2, ml2⟩ := open_trips (hval 2 29 v2 rfl rfl) h2
  have k3 := h3
  obtain ⟨l3, rd3, bd3, ml3⟩ := open_trips (hval 3 29 v3 rfl rfl) h3
  have k4 := h4
  obtain ⟨n4, rfl, -, -, wf4⟩ := open_int Try.underlying3 (hval 4 3 v4 rfl rfl) h4
  have bd4 := bounds_i64 wf4
  have k5 := h5
  obtain ⟨n5, rfl, -, -, wf5⟩ := open_int Try.underlying3 (hval 5 3 v5 rfl rfl) h5
  have bd5 := bounds_i64 wf5
  refine ((fun za pa1 pa2 pa3 pa4 pa5 na1 na2 na3 na4 na5 ca1 ca2 ca3 ca4 ca5 la zb pb1 pb2 pb3 pb4 pb5 nb1 nb2 nb3 nb4 nb5 cb1 cb2 cb3 cb4 cb5 lb vx lx vy ly last hd hla hlb hbx hlx hby hly l0 l1 d0 d1 W ra rb rx ry => mr_any za zb pa1 pa2 pa3 pa4 pa5 pb1 pb2 pb3 pb4 pb5 na1 na2 na3 na4 na5 nb1 nb2 nb3 nb4 nb5 ca1 ca2 ca3 ca4 ca5 cb1 cb2 cb3 cb4 cb5 la lb hla hlb vx vy lx ly hlx hly hbx hby last hd l0 l1 d0 d1 W ra rb rx ry) z0 p0_1 p0_2 p0_3 p0_4 p0_5 n0_1 n0_2 n0_3 n0_4 n0_5 c0_1 c0_2 c0_3 c0_4 c0_5 l0 z1 p1_1 p1_2 p1_3 p1_4 p1_5 n1_1 n1_2 n1_3 n1_4 n1_5 c1_1 c1_2 c1_3 c1_4 c1_5 l1 v2 l2 v3 l3 n4 n5 ml0 ml1 bd2 ml2 bd3 ml3 bd4.1 bd4.2 bd5.1 bd5.2 W rd0 rd1 rd2 rd3).mono fun e W' ⟨he, hg⟩ => ?_
  subst he
  refine ⟨_, rfl, _, _, _, [], (p0 ++ (p1 ++ (p2 ++ (p3 ++ (p4 ++ (p5 ++ [])))))), [], hW', ?_, ?_, ?_, hg.frame _, fun h => by cases h⟩
  · exact trodAll_mk1 (shut_bool Try.underlying4 _)
  · exact trodAll_cons_mk (Below.trod laidOut (by kernel_rfl) (of_decide_eq_true (by kernel_rfl)) k0 hg (fun x hx => hlt x (by simp [hx]))) (trodAll_cons_mk (Below.trod laidOut (by kernel_rfl) (of_decide_eq_true (by kernel_rfl)) k1 hg (fun x hx => hlt x (by simp [hx]))) (trodAll_cons_mk (Below.trod laidOut (by kernel_rfl) (of_decide_eq_true (by kernel_rfl)) k2 hg (fun x hx => hlt x (by simp [hx]))) (trodAll_cons_mk (Below.trod laidOut (by kernel_rfl) (of_decide_eq_true (by kernel_rfl)) k3 hg (fun x hx => hlt x (by simp [hx]))) (trodAll_cons_mk (Below.trod laidOut (by kernel_rfl) (of_decide_eq_true (by kernel_rfl)) k4 hg (fun x hx => hlt x (by simp [hx]))) (trodAll_cons_mk (Below.trod laidOut (by kernel_rfl) (of_decide_eq_true (by kernel_rfl)) k5 hg (fun x hx => hlt x (by simp [hx]))) (trodAll_mk0))))))
  · rfl
set_option maxRecDepth 100000 in
theorem reads (os : Os) {H : Type} (enc : TypeId × Value → H) : ∃ places, DataW.whole enc Try.prog ((laidWorld os).forCall (fun _ _ => 0) ⟨#[], #[.agg #[.int .i64 0, .slice none 0 0, .slice none 0 0, .slice none 0 0, .slice none 0 0, .slice none 0 0], .agg #[.int .i64 0, .slice none 0 0, .slice none 0 0, .slice none 0 0, .slice none 0 0, .slice none 0 0], .slice none 0 0, .slice none 0 0, .int .i64 0, .int .i64 0], []⟩).memory Try.f3.params.toList Rows.statementMatchesReferenceSpec.vars false (#[.agg #[.int .i64 0, .slice none 0 0, .slice none 0 0, .slice none 0 0, .slice none 0 0, .slice none 0 0], .agg #[.int .i64 0, .slice none 0 0, .slice none 0 0, .slice none 0 0, .slice none 0 0, .slice none 0 0], .slice none 0 0, .slice none 0 0, .int .i64 0, .int .i64 0] : Array Value).toList 8 = some ([.agg [.lit (.int .i64 0), .nil, .nil, .nil, .nil, .nil], .agg [.lit (.int .i64 0), .nil, .nil, .nil, .nil, .nil], .nil, .nil, .lit (.int .i64 0), .lit (.int .i64 0)], [], places) :=
  ⟨[], by kernel_rfl⟩
set_option maxRecDepth 100000 in
theorem lifted (os : Os) (started : os.Started) (H : Type) (enc : TypeId × Value → H) (F : Stop.Interp) :
    ReturnsInHanded {} Try.checked os 3 .any ((OpenSpec.ofChange Rows.statementMatchesReferenceSpec).preRow enc Try.prog Try.f3 Rows.statementMatchesReferenceRow.domain false Rows.statementMatchesReferenceRow.laid) (((OpenSpec.ofChange Rows.statementMatchesReferenceSpec).at F).post enc Try.prog Try.f3 false true false false) := by
  obtain ⟨places, hx⟩ := reads os enc
  refine returnsInHanded_of_row (C := Try.checked) (s := OpenSpec.ofChange Rows.statementMatchesReferenceSpec) own started (by kernel_rfl) Try.func3
    (witness_row_atRef (enc := enc) (C := Try.checked) false (laidWorld os) #[.agg #[.int .i64 0, .slice none 0 0, .slice none 0 0, .slice none 0 0, .slice none 0 0, .slice none 0 0], .agg #[.int .i64 0, .slice none 0 0, .slice none 0 0, .slice none 0 0, .slice none 0 0, .slice none 0 0], .slice none 0 0, .slice none 0 0, .int .i64 0, .int .i64 0] rfl (by kernel_rfl) (by kernel_rfl) (by kernel_rfl)
      (OpenSpec.preRow_of_cond 8 hx (by kernel_rfl) (fun k hk => by cases hk) (by kernel_rfl) (laidMet_of_run' 8 (by kernel_rfl) (by kernel_rfl)))) ?_
  intro W base args ds gs before hval hW _ _ _ _ _ _
  exact contract H enc W base args ds gs before hval hW
theorem said : Rows.StatementMatchesReferenceSaid :=
  OpenClaim.holds_of_cond 3 Try.f3 rfl rfl rfl rfl rfl rfl rfl ⟨rfl, rfl, rfl, rfl, rfl⟩ rfl rfl rfl rfl rfl (by kernel_rfl) Try.func3 (by kernel_rfl)
    (of_decide_eq_true (by kernel_rfl)) (by unfold Func.isWrapper; first | (rw [if_pos (by decide +kernel)]; kernel_rfl) | (rw [if_neg (by decide +kernel)]; exact ⟨rfl, rfl⟩))
    (fun os started H enc _ F => by rw [OpenClaim.pre_eq_preRow]; exact lifted os started H enc F)
end Go.Proofs.Ytillplhadimgmaa.fnStatementMatchesReference

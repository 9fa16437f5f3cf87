/-
  A forest of nodes, plain: representatives, a path shortened, two trees joined.
-/
import Derived.Laws.StructEq
import Derived.Test.YtbmlfejlmedmgaaKkey
import Derived.Test.YtbmlfejlmedmgaaGu
namespace Go.Proofs.Ytbmlfejlmedmgaa
open Go.RowKit
namespace RW
/-- a node: is it a device, and its number; an edge: account, device -/
abbrev Nd := Bool × Int
abbrev Ed := Int × Int
def ndv (x : Nd) : Value := .agg #[.bool x.1, .int .i64 x.2]
def edl (x : Ed) : List Value := [.int .i64 x.1, .int .i64 x.2]
/-- l holds a parent for each node that is no representative; R gives the representatives; d falls along the way up -/
structure Fr (l : List (Nd × Value)) (R : Nd → Nd) (d : Nd → Nat) : Prop where
  top : ∀ x, KM.get x l = none → R x = x
  up : ∀ x v, KM.get x l = some v → ∃ p, v = ndv p ∧ R x = R p ∧ d p < d x
theorem Fr.nil : Fr [] id (fun _ => 0) := ⟨fun _ _ => rfl, fun x v h => by rw [KM.get_nil] at h; cases h⟩
section
variable {l : List (Nd × Value)} {R : Nd → Nd} {d : Nd → Nat}
theorem Fr.root (h : Fr l R d) : ∀ (k : Nat) (x : Nd), d x ≤ k → KM.get (R x) l = none ∧ d (R x) ≤ d x
  | 0, x, hk => by
    cases hg : KM.get x l with
    | none => rw [h.top x hg]; exact ⟨hg, Nat.le_refl _⟩
    | some v => obtain ⟨p, _, _, h3⟩ := h.up x v hg; omega
  | k + 1, x, hk => by
    cases hg : KM.get x l with
    | none => rw [h.top x hg]; exact ⟨hg, Nat.le_refl _⟩
    | some v =>
      obtain ⟨p, _, h2, h3⟩ := h.up x v hg
      have h4 := Fr.root h k p (by omega)
      rw [h2]
      exact ⟨h4.1, by omega⟩
theorem Fr.idem (h : Fr l R d) (x : Nd) : R (R x) = R x := h.top _ (h.root _ x (Nat.le_refl _)).1
theorem Fr.pres (h : Fr l R d) {x p : Nd} (h1 : R x = R p) (h2 : d p < d x) : KM.get x l ≠ none := fun hn => by
  have h3 := (h.root _ p (Nat.le_refl _)).2
  rw [← h1, h.top x hn] at h3
  omega
theorem Fr.short (h : Fr l R d) (x : Nd) (hx : KM.get x l ≠ none) : Fr (KM.put x (ndv (R x)) l) R d := by
  refine ⟨fun y hy => ?_, fun y v hy => ?_⟩
  · rw [KM.get_put] at hy
    split at hy
    · cases hy
    · exact h.top y hy
  · rw [KM.get_put] at hy
    split at hy
    · rename_i he
      subst he
      cases hy
      refine ⟨R y, rfl, (h.idem y).symm, ?_⟩
      cases hg : KM.get y l with
      | none => exact absurd hg hx
      | some v =>
        obtain ⟨p, _, h2, h3⟩ := h.up y v hg
        have h4 := (h.root _ p (Nat.le_refl _)).2
        rw [h2]
        omega
    · exact h.up y v hy
/-- the representatives behind a and b's being joined -/
def rJ (R : Nd → Nd) (a b x : Nd) : Nd := if R x = R a then R b else R x
theorem Fr.join (h : Fr l R d) (a b : Nd) (hne : R a ≠ R b) : Fr (KM.put (R a) (ndv (R b)) l) (rJ R a b) (fun x => if R x = R a then d x + d (R b) + 1 else d x) := by
  refine ⟨fun y hy => ?_, fun y v hy => ?_⟩
  · rw [KM.get_put] at hy
    split at hy
    · cases hy
    · rename_i hn
      have e := h.top y hy
      rw [rJ, if_neg (by rw [e]; exact hn), e]
  · rw [KM.get_put] at hy
    split at hy
    · rename_i he
      subst he
      cases hy
      refine ⟨R b, rfl, ?_, ?_⟩
      · rw [rJ, rJ, h.idem, h.idem, if_pos rfl, if_neg (Ne.symm hne)]
      · rw [h.idem, h.idem, if_pos rfl, if_neg (Ne.symm hne)]
        omega
    · obtain ⟨p, h1, h2, h3⟩ := h.up y v hy
      refine ⟨p, h1, ?_, ?_⟩
      · rw [rJ, rJ, h2]
      · rw [h2]
        split <;> omega
theorem rJ_same (a b : Nd) (he : R a = R b) : rJ R a b = R := by
  funext x
  unfold rJ
  split
  · rename_i h; rw [h, he]
  · rfl
theorem rJ_iff (a b x y : Nd) : rJ R a b x = rJ R a b y ↔ R x = R y ∨ (R x = R a ∧ R y = R b) ∨ (R x = R b ∧ R y = R a) := by
  unfold rJ
  by_cases h1 : R x = R a
  · by_cases h2 : R y = R a
    · simp [h1, h2]
    · rw [if_pos h1, if_neg h2]
      constructor
      · intro h; exact .inr (.inl ⟨h1, h.symm⟩)
      · rintro (h | h | h)
        · exact absurd (h.symm.trans h1) h2
        · exact h.2.symm
        · exact absurd h.2 h2
  · by_cases h2 : R y = R a
    · rw [if_neg h1, if_pos h2]
      constructor
      · intro h; exact .inr (.inr ⟨h, h2⟩)
      · rintro (h | h | h)
        · exact absurd (h.trans h2) h1
        · exact absurd h.1 h1
        · exact h.1
    · rw [if_neg h1, if_neg h2]
      constructor
      · exact .inl
      · rintro (h | h | h)
        · exact h
        · exact absurd h.1 h1
        · exact absurd h.2 h2
end
/-- the representatives of a graph's nodes -/
def rOf (l : List Ed) : Nd → Nd := l.foldl (fun R e => rJ R (false, e.1) (true, e.2)) id
theorem rOf_snoc (l : List Ed) (e : Ed) : rOf (l ++ [e]) = rJ (rOf l) (false, e.1) (true, e.2) := by
  unfold rOf
  rw [List.foldl_append]
  rfl
end RW
theorem eq2 (a b : RW.Nd) (w : World) : (Op.equal 51 (RW.ndv a) (RW.ndv b)).run Try.prog w = .ok (decide (a = b)) w := by
  obtain ⟨a0, a1⟩ := a
  obtain ⟨b0, b1⟩ := b
  have hu : Try.prog.underlying 51 = some (.struct (Try.prog.fieldsOf 51)) := by kernel_rfl
  have hst : Try.prog.stoodInHeld 51 = false := by kernel_rfl
  have e : ∀ x y : Int, (Op.equalIn 9999 3 (.int .i64 x) (.int .i64 y)).run Try.prog w = .ok (x == y) w := fun x y => run_equalIn_int w 9998 3 .i64 .i64 x y Try.underlying3
  have eb : ∀ x y : Bool, (Op.equalIn 9999 4 (.bool x) (.bool y)).run Try.prog w = .ok (x == y) w := fun x y => by
    show (Op.equalIn (9998 + 1) 4 (.bool x) (.bool y)).run Try.prog w = _
    unfold Op.equalIn
    simp [run_underlying Try.underlying4]
  have hf : (Try.prog.fieldsOf 51).toList.map (fun f => (f.name == "_", f.type, f.offset)) = [(false, 4, 0), (false, 3, 1)] := by kernel_rfl
  show (Op.equalIn (9999 + 1) 51 _ _).run Try.prog w = _
  unfold RW.ndv
  rw [run_equalIn_struct w 9999 _ _ _ hu hst]
  generalize (Try.prog.fieldsOf 51).toList = fs at hf
  rcases fs with _ | ⟨f0, _ | ⟨f1, _ | ⟨f2, fl⟩⟩⟩ <;> simp only [List.map_cons, List.map_nil, List.cons.injEq, Prod.mk.injEq, beq_eq_false_iff_ne, and_true, and_false, List.nil_eq, List.cons_ne_nil] at hf
  obtain ⟨⟨n0, t0, o0⟩, n1, t1, o1⟩ := hf
  have hp : ∀ (X : Array Value) (i : Nat) (v : Value), X[i]? = some v → (part 3 X i).run Try.prog w = .ok v w := fun X i v h => by
    simp [part, isAgg, run_underlying Try.underlying3, h]
  have hpb : ∀ (X : Array Value) (i : Nat) (v : Value), X[i]? = some v → (part 4 X i).run Try.prog w = .ok v w := fun X i v h => by
    simp [part, isAgg, run_underlying Try.underlying4, h]
  have p0 := hpb #[.bool a0, .int .i64 a1] 0 (.bool a0) rfl
  have p1 := hp #[.bool a0, .int .i64 a1] 1 (.int .i64 a1) rfl
  have q0 := hpb #[.bool b0, .int .i64 b1] 0 (.bool b0) rfl
  have q1 := hp #[.bool b0, .int .i64 b1] 1 (.int .i64 b1) rfl
  show (Op.eqFields 9999 #[.bool a0, .int .i64 a1] #[.bool b0, .int .i64 b1] [f0, f1]).run Try.prog w = _
  generalize #[Value.bool a0, Value.int .i64 a1] = X at p0 p1 ⊢
  generalize #[Value.bool b0, Value.int .i64 b1] = Y at q0 q1 ⊢
  simp only [Op.eqFields, n0, n1, t0, t1, o0, o1, ne_eq, not_false_eq_true, if_true, Sem.run_bind, p0, q0, Result.andThen_ok, eb]
  by_cases g0 : a0 = b0
  · by_cases g1 : a1 = b1
    · simp [g0, g1, p1, q1, e]
    · simp [g0, g1, p1, q1, e]
  · simp [g0]
theorem check2 (e : Bool) (k : RW.Nd) (w : World) : (Instr.checkKey e 10000 51 (RW.ndv k)).run Try.prog w = .ok () w := by
  obtain ⟨a0, a1⟩ := k
  show (Instr.checkKey e (9999 + 1) 51 (.agg #[.bool a0, .int .i64 a1])).run Try.prog w = _
  have hi : ∀ (x : Int), (Instr.checkKey e 9999 3 (.int .i64 x)).run Try.prog w = .ok () w := fun x => by
    show (Instr.checkKey e (9998 + 1) 3 (.int .i64 x)).run Try.prog w = .ok () w
    unfold Instr.checkKey
    simp [run_underlying Try.underlying3]
  have hb : ∀ (x : Bool), (Instr.checkKey e 9999 4 (.bool x)).run Try.prog w = .ok () w := fun x => by
    show (Instr.checkKey e (9998 + 1) 4 (.bool x)).run Try.prog w = .ok () w
    unfold Instr.checkKey
    simp [run_underlying Try.underlying4]
  have hp : ∀ (X : Array Value) (i : Nat) (v : Value), X[i]? = some v → (part 3 X i).run Try.prog w = .ok v w := fun X i v h => by
    simp [part, isAgg, run_underlying Try.underlying3, h]
  have hpb : ∀ (X : Array Value) (i : Nat) (v : Value), X[i]? = some v → (part 4 X i).run Try.prog w = .ok v w := fun X i v h => by
    simp [part, isAgg, run_underlying Try.underlying4, h]
  have p0 := hpb #[.bool a0, .int .i64 a1] 0 (.bool a0) rfl
  have p1 := hp #[.bool a0, .int .i64 a1] 1 (.int .i64 a1) rfl
  generalize #[Value.bool a0, Value.int .i64 a1] = X at p0 p1 ⊢
  unfold Instr.checkKey
  simp [run_underlying Try.underlying51, p0, p1, hi, hb]
theorem key2 : KM.Key Try.prog 51 RW.ndv := by
  refine KM.ask_key Try.underlying51 (fun a v => by cases v <;> rfl) eq2 check2 (fun k => by simp [RW.ndv, Instr.sameBits])
end Go.Proofs.Ytbmlfejlmedmgaa

/-
  Regions that draw their order, walked once in an order of one's own, where the operations of a chain change the memory and may leave values that are known by a property alone: no condition beyond each theorem's own premises.
-/
import Derived.Test.YtllbphanfahkkaaDoorStage
namespace Go.Proofs.YtllbphanfahkkaaDoor.RG
open Go
variable {P : Program} {ops : Array Oper}
abbrev Cls := Nat → World → Prop
def Sub (S' S : Cls) : Prop := ∀ j w, S' j w → S j w
theorem Sub.refl (S : Cls) : Sub S S := fun _ _ h => h
/-- what an operation of the chain leaves -/
def XUp (P : Program) (D : Value → World → Prop) : Result Next → Prop
  | .ok (.value u) w' => D u w'
  | .ok .skip w' => D undef w'
  | .ok (.enter f args) w' => Calls P f args w' fun e w'' => ∃ u, e = .returned u ∧ D u w''
  | _ => False
theorem CS.sub {S S' : Cls} {ks : List Nat} {l : Array Bool} {w : World} (hs : Sub S' S) (h : CS ops S' ks l w) : CS ops S ks l w := by
  obtain ⟨h1, j, h2, h3, h4⟩ := h
  exact ⟨h1, j, h2, hs j w h3, h4⟩
/-- wherever it may come up, operation i yields v and leaves the world -/
def YP (P : Program) (ops : Array Oper) (ks : List Nat) (S : Cls) (i : Nat) (o : Oper) (v : Value) (a : Act) : Prop :=
  ks.contains i = false ∧ ((Region.wanted o (yielded ops a.tmps) = true ∧ ∀ l w, rdy ops l i → CS ops S ks l w → (execOp a.eval o).run P w = .ok (.value v) w) ∨ (Region.wanted o (yielded ops a.tmps) = false ∧ v = undef))
theorem YP.sub {ks : List Nat} {S S' : Cls} {i : Nat} {o : Oper} {v : Value} {a : Act} (hs : Sub S' S) (h : YP P ops ks S i o v a) : YP P ops ks S' i o v a :=
  ⟨h.1, h.2.imp (fun h => ⟨h.1, fun l w hr hc => h.2 l w hr (CS.sub hs hc)⟩) id⟩
theorem YP.of_same {ks : List Nat} {S : Cls} {i : Nat} {o : Oper} {v : Value} {a a' : Act} (hy : YP P ops ks S i o v a) (he : execOp a'.eval o = execOp a.eval o)
    (hw : Region.wanted o (yielded ops a'.tmps) = Region.wanted o (yielded ops a.tmps)) : YP P ops ks S i o v a' := by
  unfold YP at *
  rw [he, hw]
  exact hy
/-- an operation of the chain -/
def ChC (P : Program) (ops : Array Oper) (ks : List Nat) (S : Cls) (s i : Nat) (o : Oper) (a : Act) (Φ : Cls → Value → Prop) : Prop :=
  ks[s]? = some i ∧ Region.wanted o (yielded ops a.tmps) = true ∧ ∀ w, S s w → XUp P (fun u w' => ∃ S', Sub S' S ∧ S' (s + 1) w' ∧ Φ S' u) ((execOp a.eval o).run P w)
def gOp (P : Program) (ops : Array Oper) (ks : List Nat) (S : Cls) (i : Nat) (K : Cls → Act → Prop) (a : Act) : Prop :=
  ∃ o, ops[i]? = some o ∧ ((∃ v, YP P ops ks S i o v a ∧ K S (a.put o.dst v)) ∨ ∃ s Φ, ChC P ops ks S s i o a Φ ∧ ∀ S' u, Sub S' S → Φ S' u → K S' (a.put o.dst u))
theorem gOp_mono {ks : List Nat} {S : Cls} {i : Nat} {a : Act} {K K' : Cls → Act → Prop} (h : ∀ S' a, Sub S' S → K S' a → K' S' a) (hh : gOp P ops ks S i K a) : gOp P ops ks S i K' a := by
  obtain ⟨o, h1, h2⟩ := hh
  refine ⟨o, h1, h2.imp ?_ ?_⟩
  · rintro ⟨v, h3, h4⟩
    exact ⟨v, h3, h _ _ (Sub.refl _) h4⟩
  · rintro ⟨s, Φ, h3, h4⟩
    exact ⟨s, Φ, h3, fun S' u hs hu => h _ _ hs (h4 S' u hs hu)⟩
def wpG (P : Program) (ops : Array Oper) (ks : List Nat) (Q : Cls → Act → Prop) : Nat → Cls → Array Bool → Act → Prop
  | 0, S, l, a => Region.ready .any ops l = [] ∧ Q S a
  | n + 1, S, l, a => (Region.ready .any ops l = [] → Q S a) ∧ ∀ i ∈ Region.ready .any ops l, gOp P ops ks S i (fun S' a' => wpG P ops ks Q n S' (l.setIfInBounds i true) a') a
theorem wpAny_of_G {ks : List Nat} {Q : Cls → Act → Prop} {Q' : Exit → Act → World → Prop} (hch : chainB ops ks = true ∧ ks.Nodup) (hQ : ∀ S a l w, Region.ready .any ops l = [] → CS ops S ks l w → Q S a → Q' .normal a w) :
    ∀ (n : Nat) (S : Cls) (l : Array Bool) (a : Act) (w : World), CS ops S ks l w → wpG P ops ks Q n S l a → wpAny P .any ops Q' n l a w
  | 0, _, _, _, _, hw, h => ⟨h.1, hQ _ _ _ _ h.1 hw h.2⟩
  | n + 1, S, l, a, w, hw, h => by
    refine ⟨fun h0 => hQ _ _ _ _ h0 hw (h.1 h0), fun i hi => ?_⟩
    obtain ⟨o, ho, hh⟩ := h.2 i hi
    unfold wpOp
    simp only [ho]
    have hw' := hw
    obtain ⟨hsh, j, hj, hS, hl⟩ := hw'
    rcases hh with ⟨v, ⟨hk, hy⟩, hK⟩ | ⟨s, Φ, ⟨hs, hwt, hC⟩, hK⟩
    · have hk' : i ∉ ks := by simpa using hk
      rcases hy with ⟨h1, h2⟩ | ⟨h1, rfl⟩
      · rw [if_pos h1]
        refine .inl ?_
        unfold Oper.wp
        rw [h2 l w hi hw]
        exact wpAny_of_G hch hQ n _ _ _ _ (CS.keep hsh hi hk' hj hS hl) hK
      · rw [if_neg (by rw [h1]; simp)]
        exact wpAny_of_G hch hQ n _ _ _ _ (CS.keep hsh hi hk' hj hS hl) hK
    · rw [if_pos hwt]
      refine .inl ?_
      have hnl := listed_not_ready hi hsh.1
      have hjs : j ≤ s := by
        rcases Nat.lt_or_ge s j with h' | h'
        · rw [(hl s i hs).2 h'] at hnl; cases hnl
        · exact h'
      have hsj : s ≤ j := by
        cases s with
        | zero => omega
        | succ s =>
          have hlt := (List.getElem?_eq_some_iff.1 hs).1
          obtain ⟨h3, h4⟩ := chainB_get ks hch.1 s _ i (List.getElem?_eq_getElem (by omega)) hs
          exact (hl s _ (List.getElem?_eq_getElem (by omega))).1 (isAnc_ready hsh h3 h4 hi)
      obtain rfl : j = s := by omega
      have h3 := hC w hS
      unfold Oper.wp
      generalize (execOp a.eval o).run P w = r at *
      cases r with
      | ok n' w' =>
        cases n' <;> simp only [XUp] at h3 <;> simp only [Oper.upon]
        case value u =>
          obtain ⟨S', hs1, hs2, hs3⟩ := h3
          exact wpAny_of_G hch hQ n _ _ _ _ (CS.next hsh hi hs hch.2 hs2 hl) (hK S' u hs1 hs3)
        case skip =>
          obtain ⟨S', hs1, hs2, hs3⟩ := h3
          exact wpAny_of_G hch hQ n _ _ _ _ (CS.next hsh hi hs hch.2 hs2 hl) (hK S' undef hs1 hs3)
        case enter f args =>
          refine Calls.mono h3 ?_
          rintro e w'' ⟨u, rfl, S', hs1, hs2, hs3⟩
          exact wpAny_of_G hch hQ n _ _ _ _ (CS.next hsh hi hs hch.2 hs2 hl) (hK S' u hs1 hs3)
      | halt x w' => simp only [XUp] at h3
theorem gOp_put {ks : List Nat} {S : Cls} {i j : Nat} {oi oj : Oper} {v : Value} (hj : ops[j]? = some oj) (hap : oi.apart ops oj = true)
    (hsi : ∀ cs b, oi.op ≠ .select cs b) (hsj : ∀ cs b, oj.op ≠ .select cs b) {K : Cls → Act → Prop} {a : Act}
    (hy : YP P ops ks S i oi v a) (h : gOp P ops ks S j K (a.put oi.dst v)) : gOp P ops ks S j (fun S' a' => YP P ops ks S' i oi v a' ∧ K S' (a'.put oi.dst v)) a := by
  obtain ⟨h1, h2, h3⟩ := Oper.apart_spec hap
  obtain ⟨o, ho, hh⟩ := h
  obtain rfl : o = oj := Option.some.inj (ho.symm.trans hj)
  have hsame : ∀ u, YP P ops ks S i oi v (a.put o.dst u) := fun u => hy.of_same (execOp_put oi hsi a o.dst u h3) (wanted_put oi a o.dst u h3)
  refine ⟨o, ho, hh.imp ?_ ?_⟩
  · rintro ⟨u, hyj, hk⟩
    refine ⟨u, hyj.of_same (execOp_put o hsj a oi.dst v h1).symm (wanted_put o a oi.dst v h1).symm, hsame u, ?_⟩
    rw [← Act.put_comm a v u h2]; exact hk
  · rintro ⟨s, Φ, ⟨c1, c2, c3⟩, hk⟩
    rw [execOp_put o hsj a oi.dst v h1] at c3
    rw [wanted_put o a oi.dst v h1] at c2
    refine ⟨s, Φ, ⟨c1, c2, c3⟩, fun S' u hs hu => ⟨(hsame u).sub hs, ?_⟩⟩
    rw [← Act.put_comm a v u h2]; exact hk S' u hs hu
theorem wpG_first {ks : List Nat} {Q : Cls → Act → Prop} {i : Nat} {oi : Oper} {v : Value} (hi : ops[i]? = some oi) (hsel : ∀ (j : Nat) (o : Oper) cs b, ops[j]? = some o → o.op ≠ .select cs b) :
    ∀ (n : Nat) (S : Cls) (l : Array Bool) (a : Act),
      (∀ j oj, ops[j]? = some oj → j ≠ i → l.getD j true = false → (∀ e ∈ oj.after, Region.binds .any e = true → e.on ≠ i) → oi.apart ops oj = true) →
      i ∈ Region.ready .any ops l → YP P ops ks S i oi v a →
      wpG P ops ks Q n S (l.setIfInBounds i true) (a.put oi.dst v) → wpG P ops ks Q (n + 1) S l a := by
  intro n
  induction n with
  | zero =>
    intro S l a _ hr hy H
    refine ⟨fun h => (by rw [h] at hr; cases hr), fun j hj => ?_⟩
    by_cases hji : j = i
    · subst hji; exact ⟨oi, hi, .inl ⟨v, hy, H⟩⟩
    · have := ready_mono hj hji
      rw [H.1] at this
      cases this
  | succ n ih =>
    intro S l a hfree hr hy H
    refine ⟨fun h => (by rw [h] at hr; cases hr), fun j hj => ?_⟩
    by_cases hji : j = i
    · subst hji; exact ⟨oi, hi, .inl ⟨v, hy, H⟩⟩
    · have h1 := H.2 j (ready_mono hj hji)
      obtain ⟨hjun, oj, hoj, hall⟩ := mem_ready.1 hj
      have hnot : ∀ e ∈ oj.after, Region.binds .any e = true → e.on ≠ i := fun e he hb heq => by
        have h1 := hall e he hb
        have h0 := (mem_ready.1 hr).1
        rw [heq] at h1
        rcases Nat.lt_or_ge i l.size with h' | h'
        · simp [h'] at h0 h1; rw [h0] at h1; cases h1
        · simp [Array.getElem?_eq_none h'] at h1
      have h2 := gOp_put hoj (hfree j oj hoj hji hjun hnot) (fun cs b => hsel i oi cs b hi) (fun cs b => hsel j oj cs b hoj) hy h1
      have hfree' : ∀ k ok, ops[k]? = some ok → k ≠ i → (l.setIfInBounds j true).getD k true = false →
          (∀ e ∈ ok.after, Region.binds .any e = true → e.on ≠ i) → oi.apart ops ok = true := fun k ok hk hki hun hno => by
        refine hfree k ok hk hki ?_ hno
        by_cases hjk : j = k
        · subst hjk; exact hjun
        · rw [getD_set_ne true hjk] at hun; exact hun
      refine gOp_mono (fun S' a' _ h3 => ih S' (l.setIfInBounds j true) a' hfree' (ready_mono hr (Ne.symm hji)) h3.1 ?_) h2
      rw [Array.setIfInBounds_comm _ _ hji]
      exact h3.2
/-- an order in which a chain's operation comes alone -/
def okS (ops : Array Oper) (ks : List Nat) : List Nat → Array Bool → Bool
  | [], l => (Region.ready .any ops l).isEmpty
  | i :: r, l => (if ks.contains i then Region.ready .any ops l == [i] else (Region.ready .any ops l).contains i && Region.free .any ops l i) && okS ops ks r (l.setIfInBounds i true)
/-- the walk in that order -/
def wpS (P : Program) (ops : Array Oper) (ks : List Nat) (Q : Cls → Act → Prop) : List Nat → Cls → Act → Prop
  | [], S, a => Q S a
  | i :: r, S, a => gOp P ops ks S i (fun S' a' => wpS P ops ks Q r S' a') a
theorem wpG_of_S {ks : List Nat} {Q : Cls → Act → Prop} (hs : Region.noSelect ops = true) : ∀ (r : List Nat) (S : Cls) (l : Array Bool) (a : Act), okS ops ks r l = true → wpS P ops ks Q r S a → wpG P ops ks Q r.length S l a
  | [], _, _, _, hB, h => ⟨by simpa [okS] using hB, h⟩
  | i :: r, S, l, a, hB, h => by
    simp only [okS, Bool.and_eq_true] at hB
    obtain ⟨hB1, hB2⟩ := hB
    obtain ⟨o, ho, hh⟩ := h
    by_cases hk : ks.contains i = true
    · rw [if_pos hk] at hB1
      have hr : Region.ready .any ops l = [i] := by simpa using hB1
      refine ⟨fun h0 => (by rw [hr] at h0; cases h0), fun j hj => ?_⟩
      rw [hr, List.mem_singleton] at hj
      subst hj
      refine ⟨o, ho, hh.imp ?_ ?_⟩
      · rintro ⟨v, h1, h2⟩
        exact ⟨v, h1, wpG_of_S hs r _ _ _ hB2 h2⟩
      · rintro ⟨s, Φ, h1, h2⟩
        exact ⟨s, Φ, h1, fun S' u h3 h4 => wpG_of_S hs r _ _ _ hB2 (h2 S' u h3 h4)⟩
    · rw [if_neg hk, Bool.and_eq_true] at hB1
      rcases hh with ⟨v, h1, h2⟩ | ⟨s, Φ, h1, _⟩
      · exact wpG_first ho (Region.noSelect_spec hs) r.length S l a (Region.free_spec ho hB1.2) (by simpa using hB1.1) h1 (wpG_of_S hs r _ _ _ hB2 h2)
      · exact absurd (by simpa using List.mem_of_getElem? h1.1) hk
/-- a region that draws its order, walked once in the order r -/
theorem wp_region_sched {id : Nat} {Q : Exit → Act → World → Prop} {a : Act} {w : World} {L : List Oper} (S : Cls) (ks r : List Nat) (hm : P.follows .mixedOrders = true) (hB : Region.lexB .any L.toArray = true)
    (hks : ks.all (fun k => decide (k < L.length)) = true) (hch : chainB L.toArray ks = true ∧ ks.Nodup) (hlen : r.length = L.length) (hr : okS L.toArray ks r (Array.replicate L.length false) = true) (hS : S 0 w.drew)
    (h : wpS P L.toArray ks (fun S' a' => ∀ w', S' ks.length w' → Q .normal a' w') r S a) : (Code.region id L.toArray true).wp P Q a w := by
  have hB' := hB
  simp only [Region.lexB, Bool.and_eq_true] at hB'
  refine wp_region_any hm (wpAny_of_G (ks := ks) (Q := fun S' a' => ∀ w', S' ks.length w' → Q .normal a' w') hch ?_ _ S _ _ _ ?_ ?_)
  · intro S' a l w' hr ⟨hsh, j, hj, hS', hl⟩ hq
    refine hq w' ?_
    suffices j = ks.length by rw [← this]; exact hS'
    rcases Nat.lt_or_ge j ks.length with hlt | hge
    · exfalso
      have h1 := hl j _ (List.getElem?_eq_getElem hlt)
      have h2 := List.all_eq_true.1 hks ks[j] (List.getElem_mem hlt)
      have h3 := all_listed hB hsh.1 hr ks[j] (by simpa using h2)
      have := h1.1 h3
      omega
    · omega
  · refine ⟨⟨by simp, fun i o ho hi => by rw [rep_false] at hi; cases hi⟩, 0, by omega, hS, fun s k hk => by rw [rep_false]; simp⟩
  · have := wpG_of_S (P := P) (ks := ks) (Q := fun S' a' => ∀ w', S' ks.length w' → Q .normal a' w') hB'.1 r S (Array.replicate L.length false) a hr h
    rw [hlen] at this
    simpa using this
section
variable {Q : Cls → Act → Prop} {i : Nat} {o : Oper} {r ks : List Nat} {a : Act} {S : Cls}
/-- it yields v, whatever the world of the classes is -/
theorem g_val (v : Value) (ho : ops[i]? = some o) (hi : ks.contains i = false) (hw : Region.wanted o (yielded ops a.tmps) = true) (hv : ∀ j w, j ≤ ks.length → S j w → (execOp a.eval o).run P w = .ok (.value v) w) (h : wpS P ops ks Q r S (a.put o.dst v)) : wpS P ops ks Q (i :: r) S a :=
  ⟨o, ho, .inl ⟨v, ⟨hi, .inl ⟨hw, fun _ w _ ⟨_, j, hj, hS, _⟩ => hv j w hj hS⟩⟩, h⟩⟩
theorem g_skip (ho : ops[i]? = some o) (hi : ks.contains i = false) (hw : Region.wanted o (yielded ops a.tmps) = false) (h : wpS P ops ks Q r S (a.put o.dst undef)) : wpS P ops ks Q (i :: r) S a :=
  ⟨o, ho, .inl ⟨undef, ⟨hi, .inr ⟨hw, rfl⟩⟩, h⟩⟩
/-- it yields v; the stage is s or more -/
theorem g_from (s : Nat) (v : Value) (ho : ops[i]? = some o) (hi : ks.contains i = false) (hw : Region.wanted o (yielded ops a.tmps) = true) (hlo : s = 0 ∨ ((ks[s - 1]?).map fun k => isAnc ops k i).getD false = true)
    (hv : ∀ j w, s ≤ j → S j w → (execOp a.eval o).run P w = .ok (.value v) w) (h : wpS P ops ks Q r S (a.put o.dst v)) : wpS P ops ks Q (i :: r) S a := by
  refine ⟨o, ho, .inl ⟨v, ⟨hi, .inl ⟨hw, fun l w hr ⟨hsh, j, hj, hS, hl⟩ => hv j w ?_ hS⟩⟩, h⟩⟩
  rcases hlo with h0 | h0
  · omega
  · cases hk : ks[s - 1]? with
    | none => simp [hk] at h0
    | some k =>
      simp only [hk, Option.map_some, Option.getD_some] at h0
      have := (stage_bounds hsh hr hl).1 (s - 1) k hk h0 (fun e => by subst e; have := List.mem_of_getElem? hk; simp [this] at hi)
      omega
/-- the chain's next -/
theorem g_step (s : Nat) (Φ : Cls → Value → Prop) (ho : ops[i]? = some o) (hi : ks[s]? = some i) (hw : Region.wanted o (yielded ops a.tmps) = true)
    (hv : ∀ w, S s w → XUp P (fun u w' => ∃ S', Sub S' S ∧ S' (s + 1) w' ∧ Φ S' u) ((execOp a.eval o).run P w)) (h : ∀ S' u, Sub S' S → Φ S' u → wpS P ops ks Q r S' (a.put o.dst u)) : wpS P ops ks Q (i :: r) S a :=
  ⟨o, ho, .inr ⟨s, Φ, ⟨hi, hw, hv⟩, h⟩⟩
theorem g_nil (h : Q S a) : wpS P ops ks Q [] S a := h
end
/-- the operation's own text, found by its number: 'apply opN', then 'OpAt.z' or 'OpAt.s' as often as it wants -/
inductive OpAt : List Oper → Nat → Oper → Prop
  | z (o : Oper) (l : List Oper) : OpAt (o :: l) 0 o
  | s (x : Oper) {l : List Oper} {i : Nat} {o : Oper} : OpAt l i o → OpAt (x :: l) (i + 1) o
theorem opN {l : List Oper} {i : Nat} {o : Oper} (h : OpAt l i o) : l.toArray[i]? = some o := by
  induction h with
  | z o l => rfl
  | s x h ih => rw [List.getElem?_toArray] at ih ⊢; exact ih
end Go.Proofs.YtllbphanfahkkaaDoor.RG

/-
  Regions that draw their order, where several operations that change the memory may come up in more than one order: walked along a tree of schedules; the classes speak of what has come up: no condition beyond each theorem's own premises.
-/
import Derived.Test.YtllbphanfahkkaaDoorStg2
namespace Go.Proofs.YtllbphanfahkkaaDoor.RG
open Go
variable {P : Program} {ops : Array Oper} {Pn : List PanicEntry → World → Prop}
/-- the classes of worlds, by what of the chain has come up -/
abbrev Clh := List Nat → World → Prop
def SubH (S' S : Clh) : Prop := ∀ h w, S' h w → S h w
theorem SubH.refl (S : Clh) : SubH S S := fun _ _ h => h
def CH (ops : Array Oper) (S : Clh) (ks : List Nat) (h : List Nat) (l : Array Bool) (w : World) : Prop :=
  Shut ops l ∧ S h w ∧ ∀ k ∈ ks, (l.getD k false = true ↔ k ∈ h)
theorem CH.keep {S : Clh} {ks h : List Nat} {l : Array Bool} {i : Nat} {w : World} (hc : CH ops S ks h l w) (hr : rdy ops l i) (hi : i ∉ ks) : CH ops S ks h (l.setIfInBounds i true) w :=
  ⟨hc.1.set hr, hc.2.1, fun k hk => by rw [getD_set_ne false (fun e => hi (by subst e; exact hk))]; exact hc.2.2 k hk⟩
theorem CH.next {S S' : Clh} {ks h : List Nat} {l : Array Bool} {i : Nat} {w w' : World} (hc : CH ops S ks h l w) (hr : rdy ops l i) (hS : S' (h ++ [i]) w') : CH ops S' ks (h ++ [i]) (l.setIfInBounds i true) w' := by
  refine ⟨hc.1.set hr, hS, fun k hk => ?_⟩
  have hlt : i < l.size := by
    obtain ⟨_, o, ho, _⟩ := mem_ready.1 hr
    rw [hc.1.1]; exact (Array.getElem?_eq_some_iff.1 ho).1
  by_cases hik : i = k
  · subst hik
    simp [hlt]
  · rw [getD_set_ne false hik, hc.2.2 k hk, List.mem_append, List.mem_singleton]
    exact ⟨.inl, fun h => h.resolve_right (Ne.symm hik)⟩
def YH (P : Program) (ops : Array Oper) (ks : List Nat) (S : Clh) (i : Nat) (o : Oper) (v : Value) (a : Act) : Prop :=
  ks.contains i = false ∧ ((Region.wanted o (yielded ops a.tmps) = true ∧ ∀ h l w, rdy ops l i → CH ops S ks h l w → (execOp a.eval o).run P w = .ok (.value v) w) ∨ (Region.wanted o (yielded ops a.tmps) = false ∧ v = undef))
theorem CH.sub {S S' : Clh} {ks h : List Nat} {l : Array Bool} {w : World} (hs : SubH S' S) (hc : CH ops S' ks h l w) : CH ops S ks h l w := ⟨hc.1, hs _ _ hc.2.1, hc.2.2⟩
theorem YH.sub {ks : List Nat} {S S' : Clh} {i : Nat} {o : Oper} {v : Value} {a : Act} (hs : SubH S' S) (h : YH P ops ks S i o v a) : YH P ops ks S' i o v a :=
  ⟨h.1, h.2.imp (fun h => ⟨h.1, fun g l w hr hc => h.2 g l w hr (CH.sub hs hc)⟩) id⟩
theorem YH.of_same {ks : List Nat} {S : Clh} {i : Nat} {o : Oper} {v : Value} {a a' : Act} (hy : YH P ops ks S i o v a) (he : execOp a'.eval o = execOp a.eval o)
    (hw : Region.wanted o (yielded ops a'.tmps) = Region.wanted o (yielded ops a.tmps)) : YH P ops ks S i o v a' := by
  unfold YH at *
  rw [he, hw]
  exact hy
/-- as XUp, or the callee ends in a panic of which Pn holds -/
def XUpP (P : Program) (Pn : List PanicEntry → World → Prop) (D : Value → World → Prop) : Result Next → Prop
  | .ok (.value u) w' => D u w'
  | .ok .skip w' => D undef w'
  | .ok (.enter f args) w' => Calls P f args w' fun e w'' => (∃ u, e = .returned u ∧ D u w'') ∨ ∃ c, e = .panicked c ∧ Pn c w''
  | _ => False
theorem XUp.toP {D : Value → World → Prop} {r : Result Next} (h : XUp P D r) : XUpP P Pn D r := by
  cases r with
  | ok n w' =>
    cases n <;> simp only [XUp, XUpP] at h ⊢
    case value u => exact h
    case skip => exact h
    case enter f args => exact Calls.mono h fun e w'' h1 => .inl h1
  | halt x w' => simp only [XUp] at h
theorem put_defers (a : Act) (dst : Option Tmp) (v : Value) : (a.put dst v).defers = a.defers := by cases dst <;> rfl
def ChH (P : Program) (Pn : List PanicEntry → World → Prop) (ops : Array Oper) (ks : List Nat) (S : Clh) (h : List Nat) (i : Nat) (o : Oper) (a : Act) (Φ : Clh → Value → Prop) : Prop :=
  ks.contains i = true ∧ Region.wanted o (yielded ops a.tmps) = true ∧ ∀ w, S h w → XUpP P Pn (fun u w' => ∃ S', SubH S' S ∧ S' (h ++ [i]) w' ∧ Φ S' u) ((execOp a.eval o).run P w)
def gOh (P : Program) (Pn : List PanicEntry → World → Prop) (ops : Array Oper) (ks : List Nat) (h : List Nat) (S : Clh) (i : Nat) (K : List Nat → Clh → Act → Prop) (a : Act) : Prop :=
  ∃ o, ops[i]? = some o ∧ ((∃ v, YH P ops ks S i o v a ∧ K h S (a.put o.dst v)) ∨ ∃ Φ, ChH P Pn ops ks S h i o a Φ ∧ ∀ S' u, SubH S' S → Φ S' u → K (h ++ [i]) S' (a.put o.dst u))
theorem gOh_mono {ks h : List Nat} {S : Clh} {i : Nat} {a : Act} {K K' : List Nat → Clh → Act → Prop} (hk : ∀ h' S' a, SubH S' S → K h' S' a → K' h' S' a) (hh : gOh P Pn ops ks h S i K a) : gOh P Pn ops ks h S i K' a := by
  obtain ⟨o, h1, h2⟩ := hh
  refine ⟨o, h1, h2.imp ?_ ?_⟩
  · rintro ⟨v, h3, h4⟩
    exact ⟨v, h3, hk _ _ _ (SubH.refl _) h4⟩
  · rintro ⟨Φ, h3, h4⟩
    exact ⟨Φ, h3, fun S' u hs hu => hk _ _ _ hs (h4 S' u hs hu)⟩
def wpH (P : Program) (Pn : List PanicEntry → World → Prop) (ops : Array Oper) (ks : List Nat) (Q : List Nat → Clh → Act → Prop) : Nat → List Nat → Clh → Array Bool → Act → Prop
  | 0, h, S, l, a => Region.ready .any ops l = [] ∧ Q h S a
  | n + 1, h, S, l, a => (Region.ready .any ops l = [] → Q h S a) ∧ ∀ i ∈ Region.ready .any ops l, gOh P Pn ops ks h S i (fun h' S' a' => wpH P Pn ops ks Q n h' S' (l.setIfInBounds i true) a') a
theorem wpAny_of_H {ks : List Nat} {Q : List Nat → Clh → Act → Prop} {Q' : Exit → Act → World → Prop} {d0 : List Deferred} (hpn : ∀ c a' w', a'.defers = d0 → Pn c w' → Q' (.panic c) a' w') (hQ : ∀ h S a l w, Region.ready .any ops l = [] → CH ops S ks h l w → Q h S a → Q' .normal a w) :
    ∀ (n : Nat) (h : List Nat) (S : Clh) (l : Array Bool) (a : Act) (w : World), a.defers = d0 → CH ops S ks h l w → wpH P Pn ops ks Q n h S l a → wpAny P .any ops Q' n l a w
  | 0, _, _, _, _, _, _, hw, h => ⟨h.1, hQ _ _ _ _ _ h.1 hw h.2⟩
  | n + 1, g, S, l, a, w, hd0, hw, h => by
    refine ⟨fun h0 => hQ _ _ _ _ _ h0 hw (h.1 h0), fun i hi => ?_⟩
    obtain ⟨o, ho, hh⟩ := h.2 i hi
    unfold wpOp
    simp only [ho]
    rcases hh with ⟨v, ⟨hk, hy⟩, hK⟩ | ⟨Φ, ⟨_, hwt, hC⟩, hK⟩
    · have hk' : i ∉ ks := by simpa using hk
      rcases hy with ⟨h1, h2⟩ | ⟨h1, rfl⟩
      · rw [if_pos h1]
        refine .inl ?_
        unfold Oper.wp
        rw [h2 g l w hi hw]
        exact wpAny_of_H hpn hQ n _ _ _ _ _ ((put_defers _ _ _).trans hd0) (hw.keep hi hk') hK
      · rw [if_neg (by rw [h1]; simp)]
        exact wpAny_of_H hpn hQ n _ _ _ _ _ ((put_defers _ _ _).trans hd0) (hw.keep hi hk') hK
    · rw [if_pos hwt]
      refine .inl ?_
      have h3 := hC w hw.2.1
      unfold Oper.wp
      generalize (execOp a.eval o).run P w = r at *
      cases r with
      | ok n' w' =>
        cases n' <;> simp only [XUpP] at h3 <;> simp only [Oper.upon]
        case value u =>
          obtain ⟨S', hs1, hs2, hs3⟩ := h3
          exact wpAny_of_H hpn hQ n _ _ _ _ _ ((put_defers _ _ _).trans hd0) (hw.next hi hs2) (hK S' u hs1 hs3)
        case skip =>
          obtain ⟨S', hs1, hs2, hs3⟩ := h3
          exact wpAny_of_H hpn hQ n _ _ _ _ _ ((put_defers _ _ _).trans hd0) (hw.next hi hs2) (hK S' undef hs1 hs3)
        case enter f args =>
          refine Calls.mono h3 ?_
          rintro e w'' (⟨u, rfl, S', hs1, hs2, hs3⟩ | ⟨c, rfl, hp⟩)
          case inr => exact hpn c a w'' hd0 hp
          exact wpAny_of_H hpn hQ n _ _ _ _ _ ((put_defers _ _ _).trans hd0) (hw.next hi hs2) (hK S' u hs1 hs3)
      | halt x w' => simp only [XUpP] at h3
theorem gOh_put {ks h : List Nat} {S : Clh} {i j : Nat} {oi oj : Oper} {v : Value} (hj : ops[j]? = some oj) (hap : oi.apart ops oj = true)
    (hsi : ∀ cs b, oi.op ≠ .select cs b) (hsj : ∀ cs b, oj.op ≠ .select cs b) {K : List Nat → Clh → Act → Prop} {a : Act}
    (hy : YH P ops ks S i oi v a) (hh : gOh P Pn ops ks h S j K (a.put oi.dst v)) : gOh P Pn ops ks h S j (fun h' S' a' => YH P ops ks S' i oi v a' ∧ K h' S' (a'.put oi.dst v)) a := by
  obtain ⟨h1, h2, h3⟩ := Oper.apart_spec hap
  obtain ⟨o, ho, hh⟩ := hh
  obtain rfl : o = oj := Option.some.inj (ho.symm.trans hj)
  have hsame : ∀ u, YH P ops ks S i oi v (a.put o.dst u) := fun u => hy.of_same (execOp_put oi hsi a o.dst u h3) (wanted_put oi a o.dst u h3)
  refine ⟨o, ho, hh.imp ?_ ?_⟩
  · rintro ⟨u, hyj, hk⟩
    refine ⟨u, hyj.of_same (execOp_put o hsj a oi.dst v h1).symm (wanted_put o a oi.dst v h1).symm, hsame u, ?_⟩
    rw [← Act.put_comm a v u h2]; exact hk
  · rintro ⟨Φ, ⟨c1, c2, c3⟩, hk⟩
    rw [execOp_put o hsj a oi.dst v h1] at c3
    rw [wanted_put o a oi.dst v h1] at c2
    refine ⟨Φ, ⟨c1, c2, c3⟩, fun S' u hs hu => ⟨(hsame u).sub hs, ?_⟩⟩
    rw [← Act.put_comm a v u h2]; exact hk S' u hs hu
theorem wpH_first {ks : List Nat} {Q : List Nat → Clh → Act → Prop} {i : Nat} {oi : Oper} {v : Value} (hi : ops[i]? = some oi) (hsel : ∀ (j : Nat) (o : Oper) cs b, ops[j]? = some o → o.op ≠ .select cs b) :
    ∀ (n : Nat) (h : List Nat) (S : Clh) (l : Array Bool) (a : Act),
      (∀ j oj, ops[j]? = some oj → j ≠ i → l.getD j true = false → (∀ e ∈ oj.after, Region.binds .any e = true → e.on ≠ i) → oi.apart ops oj = true) →
      i ∈ Region.ready .any ops l → YH P ops ks S i oi v a →
      wpH P Pn ops ks Q n h S (l.setIfInBounds i true) (a.put oi.dst v) → wpH P Pn ops ks Q (n + 1) h S l a := by
  intro n
  induction n with
  | zero =>
    intro h S l a _ hr hy H
    refine ⟨fun h => (by rw [h] at hr; cases hr), fun j hj => ?_⟩
    by_cases hji : j = i
    · subst hji; exact ⟨oi, hi, .inl ⟨v, hy, H⟩⟩
    · have := ready_mono hj hji
      rw [H.1] at this
      cases this
  | succ n ih =>
    intro h S l a hfree hr hy H
    refine ⟨fun h => (by rw [h] at hr; cases hr), fun j hj => ?_⟩
    by_cases hji : j = i
    · subst hji; exact ⟨oi, hi, .inl ⟨v, hy, H⟩⟩
    · have h1 := H.2 j (ready_mono hj hji)
      obtain ⟨hjun, oj, hoj, hall⟩ := mem_ready.1 hj
      have hnot : ∀ e ∈ oj.after, Region.binds .any e = true → e.on ≠ i := fun e he hb heq => by
        have h1 := hall e he hb
        have h0 := (mem_ready.1 hr).1
        rw [heq] at h1
        rcases Nat.lt_or_ge i l.size with h' | h'
        · simp [h'] at h0 h1; rw [h0] at h1; cases h1
        · simp [Array.getElem?_eq_none h'] at h1
      have h2 := gOh_put hoj (hfree j oj hoj hji hjun hnot) (fun cs b => hsel i oi cs b hi) (fun cs b => hsel j oj cs b hoj) hy h1
      have hfree' : ∀ k ok, ops[k]? = some ok → k ≠ i → (l.setIfInBounds j true).getD k true = false →
          (∀ e ∈ ok.after, Region.binds .any e = true → e.on ≠ i) → oi.apart ops ok = true := fun k ok hk hki hun hno => by
        refine hfree k ok hk hki ?_ hno
        by_cases hjk : j = k
        · subst hjk; exact hjun
        · rw [getD_set_ne true hjk] at hun; exact hun
      refine gOh_mono (fun h' S' a' _ h3 => ih h' S' (l.setIfInBounds j true) a' hfree' (ready_mono hr (Ne.symm hji)) h3.1 ?_) h2
      rw [Array.setIfInBounds_comm _ _ hji]
      exact h3.2
/-- a tree of schedules: an operation, or two that may come up in either order -/
inductive Tr
  | nil
  | op (i : Nat) (r : Tr)
  | fork (i : Nat) (r : Tr) (k : Nat) (s : Tr)
  | fork3 (i : Nat) (r : Tr) (k : Nat) (s : Tr) (m : Nat) (t : Tr)
def Tr.len : Tr → Nat
  | .nil => 0
  | .op _ r => r.len + 1
  | .fork _ r _ _ => r.len + 1
  | .fork3 _ r _ _ _ _ => r.len + 1
def okH (ops : Array Oper) (ks : List Nat) : Tr → Array Bool → Bool
  | .nil, l => (Region.ready .any ops l).isEmpty
  | .op i r, l => (if ks.contains i then Region.ready .any ops l == [i] else (Region.ready .any ops l).contains i && Region.free .any ops l i) && okH ops ks r (l.setIfInBounds i true)
  | .fork i r k s, l => Region.ready .any ops l == [i, k] && ks.contains i && ks.contains k && r.len == s.len && okH ops ks r (l.setIfInBounds i true) && okH ops ks s (l.setIfInBounds k true)
  | .fork3 i r k s m t, l => Region.ready .any ops l == [i, k, m] && ks.contains i && ks.contains k && ks.contains m && r.len == s.len && r.len == t.len && okH ops ks r (l.setIfInBounds i true) && okH ops ks s (l.setIfInBounds k true) && okH ops ks t (l.setIfInBounds m true)
/-- the walk along the tree -/
def wpT (P : Program) (Pn : List PanicEntry → World → Prop) (ops : Array Oper) (ks : List Nat) (Q : List Nat → Clh → Act → Prop) : Tr → List Nat → Clh → Act → Prop
  | .nil, h, S, a => Q h S a
  | .op i r, h, S, a => gOh P Pn ops ks h S i (fun h' S' a' => wpT P Pn ops ks Q r h' S' a') a
  | .fork i r k s, h, S, a => gOh P Pn ops ks h S i (fun h' S' a' => wpT P Pn ops ks Q r h' S' a') a ∧ gOh P Pn ops ks h S k (fun h' S' a' => wpT P Pn ops ks Q s h' S' a') a
  | .fork3 i r k s m t, h, S, a => gOh P Pn ops ks h S i (fun h' S' a' => wpT P Pn ops ks Q r h' S' a') a ∧ gOh P Pn ops ks h S k (fun h' S' a' => wpT P Pn ops ks Q s h' S' a') a ∧ gOh P Pn ops ks h S m (fun h' S' a' => wpT P Pn ops ks Q t h' S' a') a
theorem wpH_of_T {ks : List Nat} {Q : List Nat → Clh → Act → Prop} (hs : Region.noSelect ops = true) : ∀ (r : Tr) (h : List Nat) (S : Clh) (l : Array Bool) (a : Act), okH ops ks r l = true → wpT P Pn ops ks Q r h S a → wpH P Pn ops ks Q r.len h S l a
  | .nil, _, _, _, _, hB, h => ⟨by simpa [okH] using hB, h⟩
  | .op i r, g, S, l, a, hB, h => by
    simp only [okH, Bool.and_eq_true] at hB
    obtain ⟨hB1, hB2⟩ := hB
    obtain ⟨o, ho, hh⟩ := h
    by_cases hk : ks.contains i = true
    · rw [if_pos hk] at hB1
      have hr : Region.ready .any ops l = [i] := by simpa using hB1
      refine ⟨fun h0 => (by rw [hr] at h0; cases h0), fun j hj => ?_⟩
      rw [hr, List.mem_singleton] at hj
      subst hj
      exact gOh_mono (fun h' S' a' _ h3 => wpH_of_T hs r _ _ _ _ hB2 h3) ⟨o, ho, hh⟩
    · rw [if_neg hk, Bool.and_eq_true] at hB1
      rcases hh with ⟨v, h1, h2⟩ | ⟨Φ, h1, _⟩
      · exact wpH_first ho (Region.noSelect_spec hs) r.len g S l a (Region.free_spec ho hB1.2) (by simpa using hB1.1) h1 (wpH_of_T hs r _ _ _ _ hB2 h2)
      · exact absurd h1.1 hk
  | .fork i r k s, g, S, l, a, hB, h => by
    simp only [okH, Bool.and_eq_true] at hB
    obtain ⟨⟨⟨⟨⟨hB1, _⟩, _⟩, hlen⟩, hB2⟩, hB3⟩ := hB
    have hr : Region.ready .any ops l = [i, k] := by simpa using hB1
    have hlen : r.len = s.len := by simpa using hlen
    refine ⟨fun h0 => (by rw [hr] at h0; cases h0), fun j hj => ?_⟩
    rw [hr, List.mem_cons, List.mem_singleton] at hj
    rcases hj with rfl | rfl
    · exact gOh_mono (fun h' S' a' _ h3 => wpH_of_T hs r _ _ _ _ hB2 h3) h.1
    · refine gOh_mono (fun h' S' a' _ h3 => ?_) h.2
      show wpH P Pn ops ks Q r.len _ _ _ _
      rw [hlen]
      exact wpH_of_T hs s _ _ _ _ hB3 h3
  | .fork3 i r k s m t, g, S, l, a, hB, h => by
    simp only [okH, Bool.and_eq_true] at hB
    obtain ⟨⟨⟨⟨⟨⟨⟨⟨hB1, _⟩, _⟩, _⟩, hlen⟩, hlen2⟩, hB2⟩, hB3⟩, hB4⟩ := hB
    have hr : Region.ready .any ops l = [i, k, m] := by simpa using hB1
    have hlen : r.len = s.len := by simpa using hlen
    have hlen2 : r.len = t.len := by simpa using hlen2
    refine ⟨fun h0 => (by rw [hr] at h0; cases h0), fun j hj => ?_⟩
    rw [hr, List.mem_cons, List.mem_cons, List.mem_singleton] at hj
    rcases hj with rfl | rfl | rfl
    · exact gOh_mono (fun h' S' a' _ h3 => wpH_of_T hs r _ _ _ _ hB2 h3) h.1
    · refine gOh_mono (fun h' S' a' _ h3 => ?_) h.2.1
      show wpH P Pn ops ks Q r.len _ _ _ _
      rw [hlen]
      exact wpH_of_T hs s _ _ _ _ hB3 h3
    · refine gOh_mono (fun h' S' a' _ h3 => ?_) h.2.2
      show wpH P Pn ops ks Q r.len _ _ _ _
      rw [hlen2]
      exact wpH_of_T hs t _ _ _ _ hB4 h3
/-- a region that draws its order, walked along the tree r -/
theorem wp_region_treeP {id : Nat} {Q : Exit → Act → World → Prop} {a : Act} {w : World} {L : List Oper} (Pn : List PanicEntry → World → Prop) (hpn : ∀ c a' w', a'.defers = a.defers → Pn c w' → Q (.panic c) a' w') (S : Clh) (ks : List Nat) (r : Tr) (hm : P.follows .mixedOrders = true) (hB : Region.lexB .any L.toArray = true)
    (hlen : r.len = L.length) (hr : okH L.toArray ks r (Array.replicate L.length false) = true) (hS : S [] w.drew)
    (h : wpT P Pn L.toArray ks (fun h' S' a' => ∀ w', S' h' w' → Q .normal a' w') r [] S a) : (Code.region id L.toArray true).wp P Q a w := by
  have hB' := hB
  simp only [Region.lexB, Bool.and_eq_true] at hB'
  refine wp_region_any hm (wpAny_of_H (ks := ks) (Pn := Pn) (d0 := a.defers) (Q := fun h' S' a' => ∀ w', S' h' w' → Q .normal a' w') hpn (fun h S' a l w' _ hc hq => hq w' hc.2.1) _ [] S _ _ _ rfl ?_ ?_)
  · exact ⟨⟨by simp, fun i o ho hi => by rw [rep_false] at hi; cases hi⟩, hS, fun k _ => by rw [rep_false]; simp⟩
  · have := wpH_of_T (P := P) (Pn := Pn) (ks := ks) (Q := fun h' S' a' => ∀ w', S' h' w' → Q .normal a' w') hB'.1 r [] S (Array.replicate L.length false) a hr h
    rw [hlen] at this
    simpa using this
theorem wp_region_tree {id : Nat} {Q : Exit → Act → World → Prop} {a : Act} {w : World} {L : List Oper} (S : Clh) (ks : List Nat) (r : Tr) (hm : P.follows .mixedOrders = true) (hB : Region.lexB .any L.toArray = true)
    (hlen : r.len = L.length) (hr : okH L.toArray ks r (Array.replicate L.length false) = true) (hS : S [] w.drew)
    (h : wpT P (fun _ _ => False) L.toArray ks (fun h' S' a' => ∀ w', S' h' w' → Q .normal a' w') r [] S a) : (Code.region id L.toArray true).wp P Q a w :=
  wp_region_treeP (fun _ _ => False) (fun _ _ _ _ h => h.elim) S ks r hm hB hlen hr hS h
section
variable {Q : List Nat → Clh → Act → Prop} {i k : Nat} {o : Oper} {r s : Tr} {ks h : List Nat} {a : Act} {S : Clh}
/-- it yields v, whatever the world of the classes is -/
theorem h_val (v : Value) (ho : ops[i]? = some o) (hi : ks.contains i = false) (hw : Region.wanted o (yielded ops a.tmps) = true) (hv : ∀ g w, S g w → (execOp a.eval o).run P w = .ok (.value v) w) (hk : wpT P Pn ops ks Q r h S (a.put o.dst v)) : wpT P Pn ops ks Q (.op i r) h S a :=
  ⟨o, ho, .inl ⟨v, ⟨hi, .inl ⟨hw, fun g _ w _ hc => hv g w hc.2.1⟩⟩, hk⟩⟩
theorem h_skip (ho : ops[i]? = some o) (hi : ks.contains i = false) (hw : Region.wanted o (yielded ops a.tmps) = false) (hk : wpT P Pn ops ks Q r h S (a.put o.dst undef)) : wpT P Pn ops ks Q (.op i r) h S a :=
  ⟨o, ho, .inl ⟨undef, ⟨hi, .inr ⟨hw, rfl⟩⟩, hk⟩⟩
/-- it yields v; k has come up -/
theorem h_from (k : Nat) (v : Value) (ho : ops[i]? = some o) (hi : ks.contains i = false) (hk : ks.contains k = true) (ha : isAnc ops k i = true) (hw : Region.wanted o (yielded ops a.tmps) = true)
    (hv : ∀ g w, k ∈ g → S g w → (execOp a.eval o).run P w = .ok (.value v) w) (hn : wpT P Pn ops ks Q r h S (a.put o.dst v)) : wpT P Pn ops ks Q (.op i r) h S a := by
  refine ⟨o, ho, .inl ⟨v, ⟨hi, .inl ⟨hw, fun g l w hr hc => hv g w ?_ hc.2.1⟩⟩, hn⟩⟩
  have hm : k ∈ ks := by simpa using hk
  exact (hc.2.2 k hm).1 (isAnc_ready hc.1 ha (fun e => by subst e; rw [hk] at hi; cases hi) hr)
/-- one of the chain -/
theorem h_oneP (Φ : Clh → Value → Prop) (ho : ops[i]? = some o) (hi : ks.contains i = true) (hw : Region.wanted o (yielded ops a.tmps) = true)
    (hv : ∀ w, S h w → XUpP P Pn (fun u w' => ∃ S', SubH S' S ∧ S' (h ++ [i]) w' ∧ Φ S' u) ((execOp a.eval o).run P w)) (hn : ∀ S' u, SubH S' S → Φ S' u → wpT P Pn ops ks Q r (h ++ [i]) S' (a.put o.dst u)) : gOh P Pn ops ks h S i (fun h' S' a' => wpT P Pn ops ks Q r h' S' a') a :=
  ⟨o, ho, .inr ⟨Φ, ⟨hi, hw, hv⟩, hn⟩⟩
theorem h_one (Φ : Clh → Value → Prop) (ho : ops[i]? = some o) (hi : ks.contains i = true) (hw : Region.wanted o (yielded ops a.tmps) = true)
    (hv : ∀ w, S h w → XUp P (fun u w' => ∃ S', SubH S' S ∧ S' (h ++ [i]) w' ∧ Φ S' u) ((execOp a.eval o).run P w)) (hn : ∀ S' u, SubH S' S → Φ S' u → wpT P Pn ops ks Q r (h ++ [i]) S' (a.put o.dst u)) : gOh P Pn ops ks h S i (fun h' S' a' => wpT P Pn ops ks Q r h' S' a') a :=
  h_oneP Φ ho hi hw (fun w hS => (hv w hS).toP) hn
theorem h_step (Φ : Clh → Value → Prop) (ho : ops[i]? = some o) (hi : ks.contains i = true) (hw : Region.wanted o (yielded ops a.tmps) = true)
    (hv : ∀ w, S h w → XUp P (fun u w' => ∃ S', SubH S' S ∧ S' (h ++ [i]) w' ∧ Φ S' u) ((execOp a.eval o).run P w)) (hn : ∀ S' u, SubH S' S → Φ S' u → wpT P Pn ops ks Q r (h ++ [i]) S' (a.put o.dst u)) : wpT P Pn ops ks Q (.op i r) h S a :=
  h_one Φ ho hi hw hv hn
theorem h_fork (h1 : gOh P Pn ops ks h S i (fun h' S' a' => wpT P Pn ops ks Q r h' S' a') a) (h2 : gOh P Pn ops ks h S k (fun h' S' a' => wpT P Pn ops ks Q s h' S' a') a) : wpT P Pn ops ks Q (.fork i r k s) h S a := ⟨h1, h2⟩
theorem h_fork3 {m : Nat} {t : Tr} (h1 : gOh P Pn ops ks h S i (fun h' S' a' => wpT P Pn ops ks Q r h' S' a') a) (h2 : gOh P Pn ops ks h S k (fun h' S' a' => wpT P Pn ops ks Q s h' S' a') a) (h3 : gOh P Pn ops ks h S m (fun h' S' a' => wpT P Pn ops ks Q t h' S' a') a) : wpT P Pn ops ks Q (.fork3 i r k s m t) h S a := ⟨h1, h2, h3⟩
theorem h_nil (hk : Q h S a) : wpT P Pn ops ks Q .nil h S a := hk
end
/-! a class C for all, and what is known of the world at this point -/
def AC (C : Clh) (Ls : List (List Nat × (World → Prop))) : Clh := fun g w => C g w ∧ ∀ p ∈ Ls, g = p.1 → p.2 w
section
variable {Q : List Nat → Clh → Act → Prop} {i k : Nat} {o : Oper} {r s : Tr} {ks h : List Nat} {a : Act} {C : Clh} {K : World → Prop} {Ls : List (List Nat × (World → Prop))}
theorem k_oneP (Φ : (World → Prop) → Value → Prop) (ho : ops[i]? = some o) (hi : ks.contains i = true) (hw : Region.wanted o (yielded ops a.tmps) = true) (hlen : (((h, K) :: Ls).map (·.1)).all (fun g => decide (g.length ≤ h.length)) = true)
    (hv : ∀ w, C h w → K w → XUpP P Pn (fun u w' => C (h ++ [i]) w' ∧ ∃ K', K' w' ∧ Φ K' u) ((execOp a.eval o).run P w)) (hn : ∀ K' u, Φ K' u → wpT P Pn ops ks Q r (h ++ [i]) (AC C ((h ++ [i], K') :: (h, K) :: Ls)) (a.put o.dst u)) :
    gOh P Pn ops ks h (AC C ((h, K) :: Ls)) i (fun h' S' a' => wpT P Pn ops ks Q r h' S' a') a := by
  refine h_oneP (fun S' u => ∃ K', S' = AC C ((h ++ [i], K') :: (h, K) :: Ls) ∧ Φ K' u) ho hi hw (fun w hS => ?_) ?_
  · have h1 := hv w hS.1 (hS.2 (h, K) (by simp) rfl)
    have hmono : ∀ u w', (C (h ++ [i]) w' ∧ ∃ K', K' w' ∧ Φ K' u) → ∃ S', SubH S' (AC C ((h, K) :: Ls)) ∧ S' (h ++ [i]) w' ∧ ∃ K', S' = AC C ((h ++ [i], K') :: (h, K) :: Ls) ∧ Φ K' u := by
      rintro u w' ⟨hC, K', hK', hΦ⟩
      refine ⟨AC C ((h ++ [i], K') :: (h, K) :: Ls), fun g w hs => ⟨hs.1, fun p hp => hs.2 p (List.mem_cons_of_mem _ hp)⟩, ⟨hC, fun p hp he => ?_⟩, K', rfl, hΦ⟩
      rcases List.mem_cons.1 hp with rfl | hp
      · exact hK'
      · exfalso
        have h2 := List.all_eq_true.1 hlen p.1 (List.mem_map_of_mem hp)
        rw [← he] at h2
        simp at h2
        omega
    generalize (execOp a.eval o).run P w = res at *
    cases res with
    | ok n' w' =>
      cases n' <;> simp only [XUpP] at h1 ⊢
      case value u => exact hmono _ _ h1
      case skip => exact hmono _ _ h1
      case enter f args => exact Calls.mono h1 fun e w'' hq => hq.imp (fun ⟨u, he, hd⟩ => ⟨u, he, hmono _ _ hd⟩) id
    | halt x w' => simp only [XUpP] at h1
  · rintro S' u _ ⟨K', rfl, hΦ⟩
    exact hn K' u hΦ
theorem k_one (Φ : (World → Prop) → Value → Prop) (ho : ops[i]? = some o) (hi : ks.contains i = true) (hw : Region.wanted o (yielded ops a.tmps) = true) (hlen : (((h, K) :: Ls).map (·.1)).all (fun g => decide (g.length ≤ h.length)) = true)
    (hv : ∀ w, C h w → K w → XUp P (fun u w' => C (h ++ [i]) w' ∧ ∃ K', K' w' ∧ Φ K' u) ((execOp a.eval o).run P w)) (hn : ∀ K' u, Φ K' u → wpT P Pn ops ks Q r (h ++ [i]) (AC C ((h ++ [i], K') :: (h, K) :: Ls)) (a.put o.dst u)) :
    gOh P Pn ops ks h (AC C ((h, K) :: Ls)) i (fun h' S' a' => wpT P Pn ops ks Q r h' S' a') a :=
  k_oneP Φ ho hi hw hlen (fun w hC hK => (hv w hC hK).toP) hn
theorem k_step (Φ : (World → Prop) → Value → Prop) (ho : ops[i]? = some o) (hi : ks.contains i = true) (hw : Region.wanted o (yielded ops a.tmps) = true) (hlen : (((h, K) :: Ls).map (·.1)).all (fun g => decide (g.length ≤ h.length)) = true)
    (hv : ∀ w, C h w → K w → XUp P (fun u w' => C (h ++ [i]) w' ∧ ∃ K', K' w' ∧ Φ K' u) ((execOp a.eval o).run P w)) (hn : ∀ K' u, Φ K' u → wpT P Pn ops ks Q r (h ++ [i]) (AC C ((h ++ [i], K') :: (h, K) :: Ls)) (a.put o.dst u)) :
    wpT P Pn ops ks Q (.op i r) h (AC C ((h, K) :: Ls)) a := k_one Φ ho hi hw hlen hv hn
theorem k_stepP (Φ : (World → Prop) → Value → Prop) (ho : ops[i]? = some o) (hi : ks.contains i = true) (hw : Region.wanted o (yielded ops a.tmps) = true) (hlen : (((h, K) :: Ls).map (·.1)).all (fun g => decide (g.length ≤ h.length)) = true)
    (hv : ∀ w, C h w → K w → XUpP P Pn (fun u w' => C (h ++ [i]) w' ∧ ∃ K', K' w' ∧ Φ K' u) ((execOp a.eval o).run P w)) (hn : ∀ K' u, Φ K' u → wpT P Pn ops ks Q r (h ++ [i]) (AC C ((h ++ [i], K') :: (h, K) :: Ls)) (a.put o.dst u)) :
    wpT P Pn ops ks Q (.op i r) h (AC C ((h, K) :: Ls)) a := k_oneP Φ ho hi hw hlen hv hn
/-- it yields v in every world of the class C -/
theorem k_val (v : Value) (ho : ops[i]? = some o) (hi : ks.contains i = false) (hw : Region.wanted o (yielded ops a.tmps) = true) (hv : ∀ g w, C g w → (execOp a.eval o).run P w = .ok (.value v) w) (hk : wpT P Pn ops ks Q r h (AC C Ls) (a.put o.dst v)) : wpT P Pn ops ks Q (.op i r) h (AC C Ls) a :=
  h_val v ho hi hw (fun g w hS => hv g w hS.1) hk
/-- it yields v in every world in which k has not come up; k waits for it -/
theorem k_bef (k : Nat) (v : Value) (ho : ops[i]? = some o) (hi : ks.contains i = false) (hk : ks.contains k = true) (ha : isAnc ops i k = true) (hw : Region.wanted o (yielded ops a.tmps) = true) (hv : ∀ g w, k ∉ g → C g w → (execOp a.eval o).run P w = .ok (.value v) w) (hn : wpT P Pn ops ks Q r h (AC C Ls) (a.put o.dst v)) : wpT P Pn ops ks Q (.op i r) h (AC C Ls) a := by
  refine ⟨o, ho, .inl ⟨v, ⟨hi, .inl ⟨hw, fun g l w hr hc => hv g w (fun hg => ?_) hc.2.1.1⟩⟩, hn⟩⟩
  have hm : k ∈ ks := by simpa using hk
  have h1 := isAnc_listed hc.1 ha ((hc.2.2 k hm).2 hg)
  rw [listed_not_ready hr hc.1.1] at h1
  cases h1
theorem k_skip (ho : ops[i]? = some o) (hi : ks.contains i = false) (hw : Region.wanted o (yielded ops a.tmps) = false) (hk : wpT P Pn ops ks Q r h (AC C Ls) (a.put o.dst undef)) : wpT P Pn ops ks Q (.op i r) h (AC C Ls) a := h_skip ho hi hw hk
/-- a region that draws its order: the class C for all its worlds, K of the first -/
theorem wp_region_k {id : Nat} {Q : Exit → Act → World → Prop} {a : Act} {w : World} {L : List Oper} (C : Clh) (K : World → Prop) (ks : List Nat) (r : Tr) (hm : P.follows .mixedOrders = true) (hB : Region.lexB .any L.toArray = true)
    (hlen : r.len = L.length) (hr : okH L.toArray ks r (Array.replicate L.length false) = true) (hC : C [] w.drew) (hK : K w.drew)
    (h : wpT P (fun _ _ => False) L.toArray ks (fun h' S' a' => ∀ w', S' h' w' → Q .normal a' w') r [] (AC C [([], K)]) a) : (Code.region id L.toArray true).wp P Q a w :=
  wp_region_tree (AC C [([], K)]) ks r hm hB hlen hr ⟨hC, fun p hp _ => by simp only [List.mem_singleton] at hp; subst hp; exact hK⟩ h
/-- a region that draws its order: the class C for all its worlds, K of the first -/
theorem wp_region_kP {id : Nat} {Q : Exit → Act → World → Prop} {a : Act} {w : World} {L : List Oper} (Pn : List PanicEntry → World → Prop) (hpn : ∀ c a' w', a'.defers = a.defers → Pn c w' → Q (.panic c) a' w') (C : Clh) (K : World → Prop) (ks : List Nat) (r : Tr) (hm : P.follows .mixedOrders = true) (hB : Region.lexB .any L.toArray = true)
    (hlen : r.len = L.length) (hr : okH L.toArray ks r (Array.replicate L.length false) = true) (hC : C [] w.drew) (hK : K w.drew)
    (h : wpT P Pn L.toArray ks (fun h' S' a' => ∀ w', S' h' w' → Q .normal a' w') r [] (AC C [([], K)]) a) : (Code.region id L.toArray true).wp P Q a w :=
  wp_region_treeP Pn hpn (AC C [([], K)]) ks r hm hB hlen hr ⟨hC, fun p hp _ => by simp only [List.mem_singleton] at hp; subst hp; exact hK⟩ h
theorem k_nil {Q' : Exit → Act → World → Prop} (hk : ∀ w', C h w' → K w' → Q' .normal a w') : wpT P Pn ops ks (fun h' S' a' => ∀ w', S' h' w' → Q' .normal a' w') .nil h (AC C ((h, K) :: Ls)) a :=
  fun w' hS => hk w' hS.1 (hS.2 (h, K) (by simp) rfl)
end
end Go.Proofs.YtllbphanfahkkaaDoor.RG

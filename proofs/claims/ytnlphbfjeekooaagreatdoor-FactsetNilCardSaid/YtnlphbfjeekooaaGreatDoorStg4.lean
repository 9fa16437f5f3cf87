/-
  Long regions that draw their order: what is ready is reckoned with a number's bits; where one operation alone is ready nothing else is asked.
-/
import Derived.Test.YtnlphbfjeekooaaGreatDoorMS
namespace Go.Proofs.YtnlphbfjeekooaaGreatDoor.RG
open Go
/-- what an operation waits for -/
def dsOf (o : Oper) : List Nat := (o.after.toList.filter fun e => Region.binds .any e).map (·.on)
def readyM (m : Nat) : List (List Nat) → Nat → List Nat
  | [], _ => []
  | d :: D, i => if !m.testBit i && d.all (fun j => m.testBit j) then i :: readyM m D (i + 1) else readyM m D (i + 1)
/-- the bits are what is listed -/
def RelM (n : Nat) (l : Array Bool) (m : Nat) : Prop := l.size = n ∧ (∀ j, l.getD j false = m.testBit j)
theorem all_ds (l : Array Bool) (m : Nat) (h : ∀ j, l.getD j false = m.testBit j) (o : Oper) : o.after.all (fun e => !Region.binds .any e || l.getD e.on false) = (dsOf o).all (fun j => m.testBit j) := by
  unfold dsOf
  rw [← Array.all_toList]
  generalize o.after.toList = L
  induction L with
  | nil => rfl
  | cons e L ih =>
    rw [List.all_cons, ih, h, List.filter_cons]
    cases Region.binds .any e <;> simp
theorem ready_from (ops : Array Oper) (l : Array Bool) (m : Nat) (hl : l.size = ops.size) (h : ∀ j, l.getD j false = m.testBit j) : ∀ (L : List Oper) (k : Nat), ops.toList.drop k = L →
    (List.range' k L.length).filter (fun i => !l.getD i true && ((ops[i]?).map (·.after.all fun e => !Region.binds .any e || l.getD e.on false)).getD false) = readyM m (L.map dsOf) k
  | [], _, _ => rfl
  | o :: L, k, hk => by
    have hlt : k < ops.size := by
      have := congrArg List.length hk
      rw [List.length_drop, Array.length_toList, List.length_cons] at this
      omega
    have hx : ops.toList[k]? = some o := by
      have := congrArg (·[0]?) hk
      simpa using this
    have ho : ops[k]? = some o := by rw [← Array.getElem?_toList]; exact hx
    have hn : ops.toList.drop (k + 1) = L := by
      have := congrArg (List.drop 1) hk
      rwa [List.drop_drop] at this
    have hg : l.getD k true = m.testBit k := by
      rw [← h k]
      have : k < l.size := by omega
      simp [Array.getD, this]
    have ih := ready_from ops l m hl h L (k + 1) hn
    rw [List.length_cons, List.range'_succ, List.filter_cons, ih, List.map_cons, readyM, hg, ho]
    simp only [Option.map_some, Option.getD_some, all_ds l m h o]
theorem ready_eq (ops : Array Oper) (D : List (List Nat)) (hD : ops.toList.map dsOf = D) (l : Array Bool) (m : Nat) (h : RelM ops.size l m) : Region.ready .any ops l = readyM m D 0 := by
  have := ready_from ops l m h.1 h.2 ops.toList 0 rfl
  rw [← hD, ← this]
  unfold Region.ready
  rw [List.range_eq_range', Array.length_toList]
theorem RelM.set {n : Nat} {l : Array Bool} {m : Nat} (h : RelM n l m) {i : Nat} (hi : i < n) : RelM n (l.setIfInBounds i true) (m ||| 2 ^ i) := by
  refine ⟨by rw [Array.size_setIfInBounds]; exact h.1, fun j => ?_⟩
  rw [Nat.testBit_or, Nat.testBit_two_pow, ← h.2 j]
  have hi' : i < l.size := by rw [h.1]; exact hi
  by_cases e : i = j
  · subst e
    simp [Array.getD, hi']
  · by_cases hj : j < l.size
    · simp [Array.getD, hj, e, Array.getElem_setIfInBounds]
    · simp [Array.getD, hj, e]
section
variable {P : Program} {Pn : List PanicEntry → World → Prop} {ops : Array Oper}
def okM (ops : Array Oper) (D : List (List Nat)) (n : Nat) (ks : List Nat) : Tr → Array Bool → Nat → Bool
  | .nil, _, m => (readyM m D 0).isEmpty
  | .op i r, l, m => Nat.blt i n && (((readyM m D 0 == [i]) || (!ks.contains i && ((readyM m D 0).contains i && Region.free .any ops l i))) && okM ops D n ks r (l.setIfInBounds i true) (m ||| 2 ^ i))
  | _, _, _ => false
theorem wpH_of_M {D : List (List Nat)} {ks : List Nat} {Q : List Nat → Clh → Act → Prop} (hs : Region.noSelect ops = true) (hD : ops.toList.map dsOf = D) : ∀ (r : Tr) (h : List Nat) (S : Clh) (l : Array Bool) (m : Nat) (a : Act), RelM ops.size l m → okM ops D ops.size ks r l m = true → wpT P Pn ops ks Q r h S a → wpH P Pn ops ks Q r.len h S l a
  | .nil, _, _, l, m, _, hl, hB, h => ⟨by rw [ready_eq ops D hD l m hl]; simpa [okM] using hB, h⟩
  | .op i r, g, S, l, m, a, hl, hB, h => by
    rw [okM, Bool.and_eq_true, Bool.and_eq_true, Bool.or_eq_true, ← ready_eq ops D hD l m hl] at hB
    obtain ⟨hlt, hB1, hB2⟩ := hB
    have hl2 := hl.set (show i < ops.size by simpa using hlt)
    obtain ⟨o, ho, hh⟩ := h
    by_cases hk : Region.ready .any ops l = [i]
    · refine ⟨fun h0 => (by rw [hk] at h0; cases h0), fun j hj => ?_⟩
      rw [hk, List.mem_singleton] at hj
      subst hj
      exact gOh_mono (fun h' S' a' _ h3 => wpH_of_M hs hD r _ _ _ _ _ hl2 hB2 h3) ⟨o, ho, hh⟩
    · rcases hB1 with hB1 | hB1
      · exact absurd (by simpa using hB1) hk
      · rw [Bool.and_eq_true, Bool.and_eq_true] at hB1
        obtain ⟨hn, hB1, hB3⟩ := hB1
        rcases hh with ⟨v, h1, h2⟩ | ⟨Φ, h1, _⟩
        · exact wpH_first ho (Region.noSelect_spec hs) r.len g S l a (Region.free_spec ho hB3) (by simpa using hB1) h1 (wpH_of_M hs hD r _ _ _ _ _ hl2 hB2 h2)
        · have := h1.1
          rw [this] at hn
          cases hn
  | .fork _ _ _ _, _, _, _, _, _, _, hB, _ => by simp [okM] at hB
  | .fork3 _ _ _ _ _ _, _, _, _, _, _, _, hB, _ => by simp [okM] at hB
/-- a long region that draws its order: the class C for all its worlds, K of the first -/
theorem wp_region_l {id : Nat} {Q : Exit → Act → World → Prop} {a : Act} {w : World} {L : List Oper} (C : Clh) (K : World → Prop) (ks : List Nat) (r : Tr) (n : Nat) (D : List (List Nat)) (hm : P.follows .mixedOrders = true) (hB : Region.lexB .any L.toArray = true)
    (hlen : r.len = L.length) (hn : L.length = n) (hD : L.map dsOf = D) (hr : okM L.toArray D n ks r (Array.replicate n false) 0 = true) (hC : C [] w.drew) (hK : K w.drew)
    (h : wpT P (fun _ _ => False) L.toArray ks (fun h' S' a' => ∀ w', S' h' w' → Q .normal a' w') r [] (AC C [([], K)]) a) : (Code.region id L.toArray true).wp P Q a w := by
  have hB' := hB
  simp only [Region.lexB, Bool.and_eq_true] at hB'
  have hS : AC C [([], K)] [] w.drew := ⟨hC, fun p hp _ => by simp only [List.mem_singleton] at hp; subst hp; exact hK⟩
  refine wp_region_any hm (wpAny_of_H (ks := ks) (Pn := fun _ _ => False) (d0 := a.defers) (Q := fun h' S' a' => ∀ w', S' h' w' → Q .normal a' w') (fun _ _ _ _ h => h.elim) (fun h S' a l w' _ hc hq => hq w' hc.2.1) _ [] (AC C [([], K)]) _ _ _ rfl ?_ ?_)
  · exact ⟨⟨by simp, fun i o ho hi => by rw [rep_false] at hi; cases hi⟩, hS, fun k _ => by rw [rep_false]; simp⟩
  · subst hn
    have := wpH_of_M (P := P) (Pn := fun _ _ => False) (ks := ks) (Q := fun h' S' a' => ∀ w', S' h' w' → Q .normal a' w') hB'.1 (D := D) (by simpa using hD) r [] (AC C [([], K)]) (Array.replicate L.length false) 0 a ⟨by simp, fun j => by rw [rep_false]; simp⟩ (by simpa using hr) h
    rw [hlen] at this
    simpa using this
end
end Go.Proofs.YtnlphbfjeekooaaGreatDoor.RG

/-
  Maps of the call's own, whatever the keys' family and the elements: what a look-up, a store, a range loop do: no condition beyond each theorem's own premises.
-/
import Derived.MapKept
import Derived.WalkKit
import Derived.Maps.RangeRun
import Derived.Deep.OwnRows
namespace Go.Proofs.YtllbphanfahkkaaGreatDoor.KM
open Go Go.RowKit
section
variable {κ : Type} [DecidableEq κ]
def look (k : κ) : List (κ × Value) → Nat → Option (Nat × Value)
  | [], _ => none
  | x :: l, i => if k = x.1 then some (i, x.2) else look k l (i + 1)
theorem look_spec (k : κ) : ∀ (l : List (κ × Value)) (i j : Nat) (u : Value), look k l i = some (j, u) → i ≤ j ∧ l[j - i]? = some (k, u)
  | [], i, j, u, h => by cases h
  | x :: l, i, j, u, h => by
    rw [look] at h
    split at h
    · rename_i he
      simp at h
      obtain ⟨rfl, rfl⟩ := h
      simp [he]
    · obtain ⟨h1, h2⟩ := look_spec k l (i + 1) j u h
      refine ⟨by omega, ?_⟩
      rw [show j - i = j - (i + 1) + 1 by omega, List.getElem?_cons_succ]
      exact h2
/-- what lies at a key -/
def get (k : κ) (l : List (κ × Value)) : Option Value := (look k l 0).map (·.2)
theorem look_shift (k : κ) : ∀ (l : List (κ × Value)) (i : Nat), look k l i = (look k l 0).map fun x => (x.1 + i, x.2)
  | [], _ => rfl
  | x :: l, i => by
    rw [look, look]
    split
    · simp
    · rw [look_shift k l (i + 1), look_shift k l 1]
      cases look k l 0 with
      | none => rfl
      | some y => simp; omega
theorem get_cons (k : κ) (x : κ × Value) (l : List (κ × Value)) : get k (x :: l) = if k = x.1 then some x.2 else get k l := by
  unfold get
  rw [look]
  split
  · rfl
  · rw [look_shift]
    cases look k l 0 <;> rfl
theorem get_nil (k : κ) : get k ([] : List (κ × Value)) = none := rfl
theorem get_none {k : κ} : ∀ {l : List (κ × Value)}, get k l = none ↔ ∀ x ∈ l, x.1 ≠ k
  | [] => by simp [get_nil]
  | x :: l => by
    rw [get_cons]
    by_cases h : k = x.1
    · rw [if_pos h]; simp [h]
    · rw [if_neg h, get_none]; simp [Ne.symm h]
theorem get_mem {k : κ} {v : Value} : ∀ {l : List (κ × Value)}, get k l = some v → (k, v) ∈ l
  | [], h => by cases h
  | x :: l, h => by
    rw [get_cons] at h
    split at h
    · rename_i he
      simp at h
      subst h
      simp [he]
    · exact List.mem_cons_of_mem _ (get_mem h)
theorem get_of_mem {k : κ} {v : Value} : ∀ {l : List (κ × Value)}, (l.map (·.1)).Nodup → (k, v) ∈ l → get k l = some v
  | [], _, h => by cases h
  | x :: l, hn, h => by
    rw [List.map_cons, List.nodup_cons] at hn
    rw [get_cons]
    rcases List.mem_cons.1 h with rfl | h
    · rw [if_pos rfl]
    · rw [if_neg, get_of_mem hn.2 h]
      rintro rfl
      exact hn.1 (List.mem_map.2 ⟨_, h, rfl⟩)
/-- a store -/
def put (k : κ) (v : Value) (l : List (κ × Value)) : List (κ × Value) := if (get k l).isSome then l.map (fun x => if x.1 = k then (k, v) else x) else l ++ [(k, v)]
theorem put_new {k : κ} {v : Value} {l : List (κ × Value)} (h : get k l = none) : put k v l = l ++ [(k, v)] := by unfold put; rw [h]; rfl
theorem get_append (k : κ) : ∀ (l m : List (κ × Value)), get k (l ++ m) = match get k l with | some v => some v | none => get k m
  | [], m => rfl
  | x :: l, m => by
    rw [List.cons_append, get_cons, get_cons]
    split
    · rfl
    · exact get_append k l m
theorem get_map (k j : κ) (v : Value) : ∀ l : List (κ × Value), get j (l.map (fun x => if x.1 = k then (k, v) else x)) = if j = k then (get k l).map (fun _ => v) else get j l
  | [] => by simp [get_nil]
  | x :: l => by
    rw [List.map_cons, get_cons, get_map k j v l, get_cons, get_cons]
    by_cases hx : x.1 = k
    · rw [if_pos hx]
      by_cases hj : j = k
      · rw [if_pos hj, if_pos hj, if_pos hx.symm]; rfl
      · rw [if_neg (show ¬ j = (k, v).1 from hj), if_neg hj, if_neg (fun e : j = x.1 => hj (e.trans hx)), if_neg hj]
    · rw [if_neg hx]
      by_cases hj : j = k
      · rw [if_pos hj, if_pos hj, if_neg (by rw [hj]; exact Ne.symm hx), if_neg (Ne.symm hx)]
      · rw [if_neg hj, if_neg hj]
/-- what lies at a key behind a store -/
theorem get_put (k j : κ) (v : Value) (l : List (κ × Value)) : get j (put k v l) = if j = k then some v else get j l := by
  unfold put
  cases h : get k l with
  | none =>
    rw [Option.isSome_none, if_neg Bool.false_ne_true, get_append]
    by_cases hj : j = k
    · subst hj; rw [h, if_pos rfl, get_cons, if_pos rfl]
    · rw [if_neg hj, get_cons, if_neg hj, get_nil]
      cases get j l <;> rfl
  | some u =>
    rw [Option.isSome_some, if_pos rfl, get_map, h]
    rfl
theorem keys_put (k : κ) (v : Value) (l : List (κ × Value)) : (put k v l).map (·.1) = if (get k l).isSome then l.map (·.1) else l.map (·.1) ++ [k] := by
  unfold put
  split
  · rw [List.map_map]
    apply List.map_congr_left
    intro x _
    simp only [Function.comp]
    split
    · rename_i h; exact h.symm
    · rfl
  · simp
theorem nodup_put {k : κ} {v : Value} {l : List (κ × Value)} (h : (l.map (·.1)).Nodup) : ((put k v l).map (·.1)).Nodup := by
  rw [keys_put]
  cases hg : get k l with
  | some u => rw [Option.isSome_some, if_pos rfl]; exact h
  | none =>
    rw [Option.isSome_none, if_neg Bool.false_ne_true, List.nodup_append]
    refine ⟨h, by simp, ?_⟩
    intro a ha b hb hab
    rw [List.mem_singleton] at hb
    subst hb hab
    obtain ⟨x, hx, hxa⟩ := List.mem_map.1 ha
    exact get_none.1 hg x hx hxa
theorem length_put (k : κ) (v : Value) (l : List (κ × Value)) : (put k v l).length = if (get k l).isSome then l.length else l.length + 1 := by
  unfold put
  split <;> simp
/-- a family of keys -/
structure Key (P : Program) (kt : TypeId) (kv : κ → Value) : Prop where
  check : ∀ (e : Bool) (k : κ) (w : World), (Instr.checkKey e 10000 kt (kv k)).run P w = .ok () w
  find : ∀ (k : κ) (es : List MapEntry) (l : List (κ × Value)) (w : World), es.map (fun e => (e.key, e.val)) = l.map (fun x => (kv x.1, x.2)) → (Instr.findKey kt (kv k) es).run P w = .ok (look k l 0) w
  stays : ∀ k, Instr.sameBits 10000 (kv k) (kv k) = true
end
section
variable {κ : Type} {kv : κ → Value} {w w' : World} {r : Nat} {l : List (κ × Value)}
/-- block r of w is a map that holds l -/
def OwnM {κ : Type} (kv : κ → Value) (w : World) (r : Nat) (l : List (κ × Value)) : Prop :=
  ∃ es clock, w.heap[r]? = some (.map es clock) ∧ es.toList.map (fun e => (e.key, e.val)) = l.map (fun x => (kv x.1, x.2)) ∧ (∀ e ∈ es.toList, e.born < clock) ∧ (es.toList.map (·.born)).Nodup ∧ (l.map (·.1)).Nodup
theorem OwnM.lt (h : OwnM kv w r l) : r < w.heap.size := by
  obtain ⟨es, clock, hb, _⟩ := h
  exact (Array.getElem?_eq_some_iff.1 hb).1
theorem OwnM.keep (h : OwnM kv w r l) (he : w'.heap[r]? = w.heap[r]?) : OwnM kv w' r l := by
  obtain ⟨es, clock, hb, hr⟩ := h
  exact ⟨es, clock, he.trans hb, hr⟩
theorem OwnM.nodup (h : OwnM kv w r l) : (l.map (·.1)).Nodup := by obtain ⟨_, _, _, _, _, _, hn⟩ := h; exact hn
theorem OwnM.made (w : World) : OwnM kv (w.alloc (.map #[] 0)) w.heap.size [] :=
  ⟨#[], 0, heap_alloc_new w _, rfl, by simp, by simp, by simp⟩
end
section
variable {κ : Type} [DecidableEq κ] {P : Program} {kt mt et : TypeId} {kv : κ → Value} {w w' : World} {r : Nat} {l : List (κ × Value)}
theorem OwnM.lookup_ok (h : OwnM kv w r l) (K : Key P kt kv) (hm : P.underlying mt = some (.map kt et)) {z : Value} (hz : (zeroValue et).run P w = .ok z w) (k : κ) :
    (Instr.lookup mt (.map (some r)) (kv k) true).run P w = .ok (.tuple #[(get k l).getD z, .bool (get k l).isSome]) w := by
  obtain ⟨es, clock, hb, he, _⟩ := h
  have hf := K.find k es.toList l w he
  unfold get
  cases hl : look k l 0 with
  | none => rw [hl] at hf; simp [Instr.lookup, run_underlying hm, MapKept.run_getObj_map hb, K.check, hf, hz]
  | some x => rw [hl] at hf; obtain ⟨i, v⟩ := x; simp [Instr.lookup, run_underlying hm, MapKept.run_getObj_map hb, K.check, hf]
theorem OwnM.lookup (h : OwnM kv w r l) (K : Key P kt kv) (hm : P.underlying mt = some (.map kt et)) {z : Value} (hz : (zeroValue et).run P w = .ok z w) (k : κ) :
    (Instr.lookup mt (.map (some r)) (kv k) false).run P w = .ok ((get k l).getD z) w := by
  obtain ⟨es, clock, hb, he, _⟩ := h
  have hf := K.find k es.toList l w he
  unfold get
  cases hl : look k l 0 with
  | none => rw [hl] at hf; simp [Instr.lookup, run_underlying hm, MapKept.run_getObj_map hb, K.check, hf, hz]
  | some x => rw [hl] at hf; obtain ⟨i, v⟩ := x; simp [Instr.lookup, run_underlying hm, MapKept.run_getObj_map hb, K.check, hf]
end
section
variable {κ : Type} {P : Program} {kt mt et : TypeId} {kv : κ → Value} {w : World} {r : Nat} {l : List (κ × Value)}
theorem OwnM.made_len (h : OwnM kv w r l) (t : TypeId) (hm : P.underlying mt = some (.map kt et)) : (Builtin.len_ #[mt] t #[.map (some r)]).run P w = .ok (.int .i64 l.length) w := by
  obtain ⟨es, clock, hb, he, _⟩ := h
  have e := congrArg List.length he
  simp at e
  simp [Builtin.len_, run_underlying hm, MapKept.run_getObj_map hb, e, goInt]
end
section
variable {κ : Type} [DecidableEq κ] {P : Program} {kt mt et : TypeId} {kv : κ → Value} {w : World} {r : Nat} {l : List (κ × Value)}
/-- 'm[k] = v' -/
theorem OwnM.update (h : OwnM kv w r l) (K : Key P kt kv) (hm : P.underlying mt = some (.map kt et)) (k : κ) (v : Value) :
    ∃ w', (Instr.mapUpdate mt (.map (some r)) (kv k) v).run P w = .ok () w' ∧ OwnM kv w' r (put k v l) ∧ w'.os = w.os ∧ w'.tape = w.tape ∧ w'.output = w.output ∧ w'.heap.size = w.heap.size ∧ ∀ j, j ≠ r → w'.heap[j]? = w.heap[j]? := by
  obtain ⟨es, clock, hb, he, hbo, hnb, hn⟩ := h
  have hlt := (Array.getElem?_eq_some_iff.1 hb).1
  have hf := K.find k es.toList l w he
  have hoth : ∀ (o : Obj) (j : Nat), j ≠ r → (w.heap.setIfInBounds r o)[j]? = w.heap[j]? := fun o j hj => by rw [Array.getElem?_setIfInBounds, if_neg (Ne.symm hj)]
  have hsame : ∀ (o : Obj), (w.heap.setIfInBounds r o)[r]? = some o := fun o => by rw [Array.getElem?_setIfInBounds, if_pos rfl, if_pos hlt]
  cases hl : look k l 0 with
  | none =>
    rw [hl] at hf
    have hg : get k l = none := by unfold get; rw [hl]; rfl
    refine ⟨{ w with heap := w.heap.setIfInBounds r (.map (es.push { key := kv k, val := v, born := clock }) (clock + 1)) }, ?_, ?_, rfl, rfl, rfl, by simp, hoth _⟩
    · simp [Instr.mapUpdate, run_underlying hm, MapKept.run_getObj_map hb, K.check, hf, MapKept.run_setObj_map _ hb]
    · refine ⟨_, _, hsame _, ?_, ?_, ?_, nodup_put hn⟩
      · rw [put_new hg]; simp [he]
      · intro e hm'
        simp at hm'
        rcases hm' with hm' | rfl
        · have := hbo e (by simpa using hm'); omega
        · exact Nat.lt_succ_self _
      · rw [Array.toList_push, List.map_append, List.nodup_append]
        refine ⟨hnb, by simp, ?_⟩
        intro a ha b hb' hab
        simp at hb'
        subst hb' hab
        obtain ⟨x, hx, hxa⟩ := List.mem_map.1 ha
        have := hbo x hx
        omega
  | some x =>
    obtain ⟨i, u⟩ := x
    rw [hl] at hf
    have hg : (get k l).isSome = true := by unfold get; rw [hl]; rfl
    obtain ⟨_, hi⟩ := look_spec k l 0 i u hl
    rw [Nat.sub_zero] at hi
    have hei : es.toList[i]?.map (fun e => (e.key, e.val)) = some (kv k, u) := by rw [← List.getElem?_map, he, List.getElem?_map, hi]; rfl
    obtain ⟨e0, he0, he1⟩ := Option.map_eq_some_iff.1 hei
    simp at he1
    have hk0 : ((es[i]?).map (·.key)).getD (kv k) = kv k := by rw [← Array.getElem?_toList, he0]; simp [he1.1]
    refine ⟨{ w with heap := w.heap.setIfInBounds r (.map (es.modify i fun e => { e with key := kv k, val := v }) clock) }, ?_, ?_, rfl, rfl, rfl, by simp, hoth _⟩
    · simp [Instr.mapUpdate, run_underlying hm, MapKept.run_getObj_map hb, K.check, hf, MapKept.run_setObj_map _ hb, hk0, Instr.keyThatStays, K.stays]
    · have hbs : (es.modify i fun e => { e with key := kv k, val := v }).toList.map (·.born) = es.toList.map (·.born) := by
        apply List.ext_getElem?
        intro j
        rw [List.getElem?_map, List.getElem?_map, Array.getElem?_toList, Array.getElem?_modify, Array.getElem?_toList]
        split
        · cases es[j]? <;> rfl
        · rfl
      refine ⟨_, _, hsame _, ?_, ?_, ?_, nodup_put hn⟩
      · unfold put
        rw [if_pos hg]
        apply List.ext_getElem?
        intro j
        rw [List.getElem?_map, Array.getElem?_toList, Array.getElem?_modify, List.getElem?_map, List.getElem?_map]
        have hej : es[j]?.map (fun e => (e.key, e.val)) = l[j]?.map (fun x => (kv x.1, x.2)) := by rw [← Array.getElem?_toList, ← List.getElem?_map, he, List.getElem?_map]
        by_cases hij : i = j
        · subst hij
          rw [if_pos rfl, hi]
          rw [hi] at hej
          cases hx : es[i]? with
          | none => rw [hx] at hej; cases hej
          | some e => simp
        · rw [if_neg hij, hej]
          cases hx : l[j]? with
          | none => rfl
          | some x =>
            have hne : x.1 ≠ k := fun h => by
              have hnl : (l.map (·.1))[j]? = some k := by rw [List.getElem?_map, hx]; simp [h]
              have hil : (l.map (·.1))[i]? = some k := by rw [List.getElem?_map, hi]; rfl
              have hjl := (List.getElem?_eq_some_iff.1 hnl).1
              exact hij ((List.getElem?_inj (List.getElem?_eq_some_iff.1 hil).1 hn).1 (hil.trans hnl.symm))
            simp [hne]
      · intro e hm'
        have : e.born ∈ es.toList.map (·.born) := by rw [← hbs]; exact List.mem_map.2 ⟨e, hm', rfl⟩
        obtain ⟨x, hx, hxe⟩ := List.mem_map.1 this
        rw [← hxe]; exact hbo x hx
      · rw [hbs]; exact hnb
end
section
variable {κ : Type} {P : Program} {kt mt et : TypeId} {kv : κ → Value} {w w' : World} {r : Nat} {l : List (κ × Value)}
/-- how many entries are still to come -/
def leftN (w : World) (r it : Nat) : Nat := match w.heap[r]?, w.heap[it]? with
  | some (.map es _), some (.mapIter _ _ seen _) => (leftOf es seen).size
  | _, _ => 0
theorem leftN_keep {w w' : World} {r it : Nat} (h1 : w'.heap[r]? = w.heap[r]?) (h2 : w'.heap[it]? = w.heap[it]?) : leftN w' r it = leftN w r it := by unfold leftN; rw [h1, h2]
/-- block it is an iterator over the map in block r, which holds l; the keys of 'done' have come -/
def IterM (kv : κ → Value) (w : World) (r it : Nat) (l : List (κ × Value)) (done : List κ) : Prop :=
  ∃ es clock since seen c0, w.heap[r]? = some (.map es clock) ∧ es.toList.map (fun e => (e.key, e.val)) = l.map (fun x => (kv x.1, x.2)) ∧ (es.toList.map (·.born)).Nodup ∧ (l.map (·.1)).Nodup ∧
    w.heap[it]? = some (.mapIter (some r) since seen c0) ∧ since ≤ c0 ∧ since ≤ clock ∧ (∀ e ∈ es.toList, e.born < since) ∧ ∀ (i : Nat) (e : MapEntry) (x : κ × Value), es.toList[i]? = some e → l[i]? = some x → (e.born ∈ seen ↔ x.1 ∈ done)
/-- .. and x came last: 'entry' reads it -/
def EntryM (kv : κ → Value) (w : World) (it : Nat) (P : Program) (x : κ × Value) : Prop := (Instr.entry (.pointer (some ⟨it, 0, none⟩))).run P w = .ok (.tuple #[kv x.1, x.2]) w
theorem OwnM.range (h : OwnM kv w r l) (hm : P.underlying mt = some (.map kt et)) :
    ∃ o, (Instr.range mt (.map (some r))).run P w = .ok (.pointer (some ⟨w.heap.size, 0, none⟩)) (w.alloc o) ∧ IterM kv (w.alloc o) r w.heap.size l [] := by
  obtain ⟨es, clock, hb, he, hbo, hnb, hn⟩ := h
  refine ⟨_, run_range_map w mt kt et r es clock hm hb, es, clock, clock, #[], clock, ?_, he, hnb, hn, heap_alloc_new w _, Nat.le_refl _, Nat.le_refl _, hbo, by simp⟩
  exact (Below.heap_alloc _ _ _ (Array.getElem?_eq_some_iff.1 hb).1).trans hb
theorem IterM.keep {it : Nat} {done : List κ} (h : IterM kv w r it l done) (h1 : w'.heap[r]? = w.heap[r]?) (h2 : w'.heap[it]? = w.heap[it]?) : IterM kv w' r it l done := by
  obtain ⟨es, clock, since, seen, c0, a1, a2, a3, a4, a5, a6⟩ := h
  exact ⟨es, clock, since, seen, c0, h1.trans a1, a2, a3, a4, h2.trans a5, a6⟩
theorem IterM.ne {it : Nat} {done : List κ} (h : IterM kv w r it l done) : it ≠ r := by
  obtain ⟨es, clock, since, seen, c0, a1, _, _, _, a5, _⟩ := h
  rintro rfl
  rw [a1] at a5
  cases a5
theorem IterM.lt {it : Nat} {done : List κ} (h : IterM kv w r it l done) : r < w.heap.size ∧ it < w.heap.size := by
  obtain ⟨es, clock, since, seen, c0, a1, _, _, _, a5, _⟩ := h
  exact ⟨(Array.getElem?_eq_some_iff.1 a1).1, (Array.getElem?_eq_some_iff.1 a5).1⟩
theorem IterM.next {it : Nat} {done : List κ} (h : IterM kv w r it l done) (ty : TypeId) :
    ((∀ x ∈ l, x.1 ∈ done) ∧ (Instr.next (.pointer (some ⟨it, 0, none⟩)) false ty).run P w = .ok (.tuple #[.bool false]) w) ∨
    ∃ x ∈ l, x.1 ∉ done ∧ ∃ w', (Instr.next (.pointer (some ⟨it, 0, none⟩)) false ty).run P w = .ok (.tuple #[.bool true, kv x.1, x.2]) w' ∧ IterM kv w' r it l (x.1 :: done) ∧ EntryM kv w' it P x ∧ leftN w' r it < leftN w r it ∧
      w'.os = w.os ∧ w'.tape = w.tape ∧ w'.output = w.output ∧ w'.heap.size = w.heap.size ∧ ∀ j, j ≠ it → w'.heap[j]? = w.heap[j]? := by
  have hner := h.ne
  obtain ⟨es, clock, since, seen, c0, hb, he, hnb, hn, hit, hsc, hscl, hold, hseen⟩ := h
  have hlen : es.toList.length = l.length := by have := congrArg List.length he; simpa using this
  have pair : ∀ (i : Nat) (e : MapEntry), es.toList[i]? = some e → ∃ x, l[i]? = some x ∧ e.key = kv x.1 ∧ e.val = x.2 := fun i e hie => by
    have h1 : (es.toList.map (fun e => (e.key, e.val)))[i]? = some (e.key, e.val) := by rw [List.getElem?_map, hie]; rfl
    rw [he, List.getElem?_map] at h1
    obtain ⟨x, hx, hx1⟩ := Option.map_eq_some_iff.1 h1
    simp at hx1
    exact ⟨x, hx, hx1.1.symm, hx1.2.symm⟩
  have hmem : ∀ e, e ∈ (leftOf es seen).toList ↔ e ∈ es.toList ∧ e.born ∉ seen := fun e => by unfold leftOf; simp
  rcases run_next_at (P := P) w ty it r since c0 seen es clock hit hb hold hsc with ⟨h0, hrun⟩ | ⟨e, hel, w1, hw1, hrun⟩
  · left
    refine ⟨fun x hx => ?_, hrun⟩
    obtain ⟨i, hi⟩ := List.getElem?_of_mem hx
    have hil := (List.getElem?_eq_some_iff.1 hi).1
    have hie := List.getElem?_eq_getElem (l := es.toList) (i := i) (by omega)
    refine (hseen i _ x hie hi).1 (Classical.byContradiction fun hns => ?_)
    have := (hmem _).2 ⟨List.getElem_mem (l := es.toList) (by omega), hns⟩
    have h3 : (leftOf es seen) = #[] := Array.eq_empty_of_size_eq_zero h0
    rw [h3] at this
    cases this
  · right
    obtain ⟨hee, hns⟩ := (hmem e).1 hel
    obtain ⟨i, hi⟩ := List.getElem?_of_mem hee
    obtain ⟨x, hx, hk, hv⟩ := pair i e hi
    have hw1h : w1.heap = w.heap := by rcases hw1 with rfl | rfl <;> rfl
    have hlt : it < w.heap.size := (Array.getElem?_eq_some_iff.1 hit).1
    have hoth : ∀ (o : Obj) (j : Nat), j ≠ it → (ChangeMaps.setBlock w1 it o).heap[j]? = w.heap[j]? := fun o j hj => by
      rw [ChangeMaps.setBlock, hw1h]
      simp only [Array.getElem?_setIfInBounds, if_neg (Ne.symm hj)]
    have hsame : ∀ (o : Obj), (ChangeMaps.setBlock w1 it o).heap[it]? = some o := fun o => by
      rw [ChangeMaps.setBlock, hw1h]
      simp only [Array.getElem?_setIfInBounds, if_pos hlt, if_true]
    have hb' := (hoth (.mapIter (some r) since (seen.push e.born) clock) r (Ne.symm hner)).trans hb
    refine ⟨x, List.mem_of_getElem? hx, fun hd => hns ((hseen i e x hi hx).2 hd), _, by rw [hrun, hk, hv], ?_, ?_, ?_, ?_, ?_, ?_, ?_, hoth _⟩
    · refine ⟨es, clock, since, seen.push e.born, clock, hb', he, hnb, hn, hsame _, hscl, hscl, hold, fun j e' x' hj hx' => ?_⟩
      rw [Array.mem_push, List.mem_cons, hseen j e' x' hj hx']
      have hiff : e'.born = e.born ↔ x'.1 = x.1 := by
        constructor
        · intro hbb
          have h1 : (es.toList.map (·.born))[j]? = some e.born := by rw [List.getElem?_map, hj]; simp [hbb]
          have h2 : (es.toList.map (·.born))[i]? = some e.born := by rw [List.getElem?_map, hi]; rfl
          have hij := (List.getElem?_inj (List.getElem?_eq_some_iff.1 h1).1 hnb).1 (h1.trans h2.symm)
          subst hij
          rw [hx] at hx'
          cases hx'
          rfl
        · intro hkk
          have h1 : (l.map (·.1))[j]? = some x.1 := by rw [List.getElem?_map, hx']; simp [hkk]
          have h2 : (l.map (·.1))[i]? = some x.1 := by rw [List.getElem?_map, hx]; rfl
          have hij := (List.getElem?_inj (List.getElem?_eq_some_iff.1 h1).1 hn).1 (h1.trans h2.symm)
          subst hij
          rw [hi] at hj
          cases hj
          rfl
      rw [hiff]
      exact Or.comm
    · have := run_entry_at (P := P) _ it r since seen es clock e (hsame _) hb' hee hnb
      rw [hk, hv] at this
      exact this
    · unfold leftN
      rw [hb', hsame, hb, hit]
      exact left_shrinks es seen e hel
    · rcases hw1 with rfl | rfl <;> rfl
    · rcases hw1 with rfl | rfl <;> rfl
    · rcases hw1 with rfl | rfl <;> rfl
    · rcases hw1 with rfl | rfl <;> simp [ChangeMaps.setBlock]
end
end Go.Proofs.YtllbphanfahkkaaGreatDoor.KM

/-
  Families of keys: strings, whole numbers, and values that are compared by '==': no condition beyond each theorem's own premises.
-/
namespace Go.Proofs.YtllbphanfahkkaaGreatDoor.KM
open Go Go.RowKit
theorem find_now {κ : Type} [DecidableEq κ] {kv : κ → Value} {d : TypeDesc} (hs : ∀ a b, Instr.sameNow d (kv a) (kv b) = some (decide (a = b))) (k : κ) : ∀ (es : List MapEntry) (l : List (κ × Value)) (i : Nat), es.map (fun e => (e.key, e.val)) = l.map (fun x => (kv x.1, x.2)) → Instr.findNow d (kv k) es i = some (look k l i)
  | [], [], _, _ => rfl
  | [], x :: l, _, h => by simp at h
  | e :: es, [], _, h => by simp at h
  | e :: es, x :: l, i, h => by
    rw [List.map_cons, List.map_cons, List.cons.injEq] at h
    obtain ⟨h1, h2⟩ := h
    simp at h1
    rw [Instr.findNow, h1.1, hs, look]
    by_cases hk : k = x.1
    · rw [if_pos hk, decide_eq_true hk]; simp only [h1.2]
    · rw [if_neg hk, decide_eq_false hk]; exact find_now hs k es l (i + 1) h2
theorem now_key {κ : Type} [DecidableEq κ] {P : Program} {kt : TypeId} {kv : κ → Value} {d : TypeDesc} (hu : P.underlying kt = some d) (hs : ∀ a b, Instr.sameNow d (kv a) (kv b) = some (decide (a = b)))
    (hc : ∀ (e : Bool) (k : κ) (w : World), (Instr.checkKey e 10000 kt (kv k)).run P w = .ok () w) (hst : ∀ k, Instr.sameBits 10000 (kv k) (kv k) = true) : Key P kt kv :=
  ⟨hc, fun k es l w h => by simp [Instr.findKey, run_underlying hu, find_now hs k es l 0 h], hst⟩
theorem int_key {P : Program} {kt : TypeId} {ik : IntKind} (hk : P.underlying kt = some (.int ik)) : Key P kt (fun x : Int => .int ik x) :=
  now_key hk (fun a b => by
      by_cases h : a = b
      · simp [Instr.sameNow, h]
      · simp [Instr.sameNow, h])
    (fun e k w => by
      show (Instr.checkKey e (9999 + 1) kt (.int ik k)).run P w = .ok () w
      unfold Instr.checkKey
      simp [run_underlying hk]) (fun k => by simp [Instr.sameBits])
theorem bytes_beq_dec (a b : ByteArray) : (a == b) = decide (a = b) := by
  by_cases h : a = b
  · rw [decide_eq_true h]; exact (MapKept.bytes_beq a b).2 h
  · rw [decide_eq_false h]
    cases e : (a == b) with
    | false => rfl
    | true => exact absurd ((MapKept.bytes_beq a b).1 e) h
theorem str_key {P : Program} {kt : TypeId} (hk : P.underlying kt = some .string) : Key P kt (fun x : ByteArray => .string x) :=
  now_key hk (fun a b => by simp only [Instr.sameNow, bytes_beq_dec])
    (fun e k w => by
      show (Instr.checkKey e (9999 + 1) kt (.string k)).run P w = .ok () w
      unfold Instr.checkKey
      simp [run_underlying hk]) (fun k => by simp [Instr.sameBits, bytes_beq_dec])
theorem find_ask {κ : Type} [DecidableEq κ] {P : Program} {kt : TypeId} {kv : κ → Value} (he : ∀ a b w, (Op.equal kt (kv a) (kv b)).run P w = .ok (decide (a = b)) w) (k : κ) (w : World) :
    ∀ (es : List MapEntry) (l : List (κ × Value)) (i : Nat), es.map (fun e => (e.key, e.val)) = l.map (fun x => (kv x.1, x.2)) → (Instr.findAsking kt (kv k) es i).run P w = .ok (look k l i) w
  | [], [], _, _ => rfl
  | [], x :: l, _, h => by simp at h
  | e :: es, [], _, h => by simp at h
  | e :: es, x :: l, i, h => by
    rw [List.map_cons, List.map_cons, List.cons.injEq] at h
    obtain ⟨h1, h2⟩ := h
    simp at h1
    rw [Instr.findAsking, look]
    simp only [Sem.run_bind, h1.1, he, Result.andThen_ok]
    by_cases hk : k = x.1
    · rw [decide_eq_true hk, if_pos rfl, if_pos hk, h1.2]; rfl
    · rw [decide_eq_false hk, if_neg Bool.false_ne_true, if_neg hk]; exact find_ask he k w es l (i + 1) h2
theorem ask_key {κ : Type} [DecidableEq κ] {P : Program} {kt : TypeId} {kv : κ → Value} {d : TypeDesc} (hu : P.underlying kt = some d) (hs : ∀ a v, Instr.sameNow d (kv a) v = none) (he : ∀ a b w, (Op.equal kt (kv a) (kv b)).run P w = .ok (decide (a = b)) w)
    (hc : ∀ (e : Bool) (k : κ) (w : World), (Instr.checkKey e 10000 kt (kv k)).run P w = .ok () w) (hst : ∀ k, Instr.sameBits 10000 (kv k) (kv k) = true) : Key P kt kv :=
  ⟨hc, fun k es l w h => by
    cases es with
    | nil =>
      cases l with
      | nil => simp [Instr.findKey, run_underlying hu, Instr.findNow, look]
      | cons x l => simp at h
    | cons e es =>
      have h1 : Instr.findNow d (kv k) (e :: es) 0 = none := by rw [Instr.findNow, hs]
      simp only [Instr.findKey, Sem.run_bind, run_underlying hu, Result.andThen_ok, h1]
      exact find_ask he k w (e :: es) l 0 h, hst⟩
end Go.Proofs.YtllbphanfahkkaaGreatDoor.KM

/-
  The order of strings: irreflexive, transitive, total: no condition.
-/
namespace Go.Proofs.YtllbphanfahkkaaGreatDoor.RW
open Go
theorem bl_irrefl : ∀ x : List UInt8, Op.bytesLess x x = false
  | [] => rfl
  | a :: x => by simp [Op.bytesLess, bl_irrefl x]
theorem bl_trans : ∀ x y z : List UInt8, Op.bytesLess x y = true → Op.bytesLess y z = true → Op.bytesLess x z = true
  | x, [], z, h, _ => by cases x <;> simp [Op.bytesLess] at h
  | x, b :: y, [], _, h => by simp [Op.bytesLess] at h
  | [], b :: y, c :: z, _, _ => rfl
  | a :: x, b :: y, c :: z, h1, h2 => by
    simp only [Op.bytesLess, Bool.or_eq_true, Bool.and_eq_true, decide_eq_true_eq, beq_iff_eq] at h1 h2 ⊢
    rcases h1 with h1 | ⟨rfl, h1⟩
    · rcases h2 with h2 | ⟨rfl, h2⟩
      · exact .inl (UInt8.lt_trans h1 h2)
      · exact .inl h1
    · rcases h2 with h2 | ⟨rfl, h2⟩
      · exact .inl h2
      · exact .inr ⟨rfl, bl_trans x y z h1 h2⟩
theorem bl_total : ∀ x y : List UInt8, Op.bytesLess x y = false → Op.bytesLess y x = false → x = y
  | [], [], _, _ => rfl
  | [], b :: y, h, _ => by simp [Op.bytesLess] at h
  | a :: x, [], _, h => by simp [Op.bytesLess] at h
  | a :: x, b :: y, h1, h2 => by
    simp only [Op.bytesLess, Bool.or_eq_false_iff, Bool.and_eq_false_iff, decide_eq_false_iff_not, beq_eq_false_iff_ne] at h1 h2
    have hab : a = b := by
      have h3 := UInt8.not_lt.1 h1.1
      have h4 := UInt8.not_lt.1 h2.1
      exact UInt8.le_antisymm h4 h3
    subst hab
    have h3 : Op.bytesLess x y = false := h1.2.resolve_left (fun h => h rfl)
    have h4 : Op.bytesLess y x = false := h2.2.resolve_left (fun h => h rfl)
    rw [bl_total x y h3 h4]
/-- of two that are not below a third, the less one's lessers .. -/
theorem bl_not_trans (x y z : List UInt8) (h1 : Op.bytesLess x y = false) (h2 : Op.bytesLess z y = true) : Op.bytesLess x z = false := by
  cases e : Op.bytesLess x z with
  | false => rfl
  | true => rw [bl_trans x z y e h2] at h1; cases h1
end Go.Proofs.YtllbphanfahkkaaGreatDoor.RW

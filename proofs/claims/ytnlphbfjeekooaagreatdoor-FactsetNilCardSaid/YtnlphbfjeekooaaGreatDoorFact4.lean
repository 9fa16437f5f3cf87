/-
  Package fact: equality of facts, rows that are loaded whole, what Valid's loop keeps; the plain side of Valid: no condition beyond each theorem's own premises.
-/
import Derived.Deep.OwnRows
import Derived.Deep.RegionHeld3
import Derived.Deep.RegionWith
import Derived.StillTailTactics
import Derived.Deep.QuietTactic
import Derived.Deep.DeepCutAuto
import Derived.BigQuiet
import Derived.Laws.EntriesVeiled
import Derived.BigRegion
import Derived.Maps.AppendAt
import Derived.Test.YtnlphbfjeekooaaGreatDoorFact1
import Derived.Test.YtnlphbfjeekooaaGreatDoorFact2
import Derived.Test.YtnlphbfjeekooaaGreatDoorFact3
namespace Go.Proofs.YtnlphbfjeekooaaGreatDoor
open Go.RowKit
theorem look_known (W : World) (m k : Nat) (hk : k < 10) (h : W.heap[m]? = some (.map (RW.kes 10) 10)) :
    (Instr.lookup 152 (.map (some m)) (.int .i64 ((k + 1 : Nat) : Int)) true).run Tryz.prog W = .ok (.tuple #[RW.kv (k + 1), .bool true]) W := by
  refine MP.run_lookup_ok (es := RW.kes 10) (i := k) Tryz.underlying152 Tryz.underlying3 h ?_
  match k, hk with
  | 0, _ => rfl
  | 1, _ => rfl
  | 2, _ => rfl
  | 3, _ => rfl
  | 4, _ => rfl
  | 5, _ => rfl
  | 6, _ => rfl
  | 7, _ => rfl
  | 8, _ => rfl
  | 9, _ => rfl
theorem fcells_size (f : Nat → Int) (s : ByteArray) : (RW.fcells f s).size = 18 := rfl
theorem fcells_get (f : Nat → Int) (s : ByteArray) (i : Nat) (h : i < 17) : (RW.fcells f s)[i]? = some (.int .i64 (f i)) := by
  have h' : i = 0 ∨ i = 1 ∨ i = 2 ∨ i = 3 ∨ i = 4 ∨ i = 5 ∨ i = 6 ∨ i = 7 ∨ i = 8 ∨ i = 9 ∨ i = 10 ∨ i = 11 ∨ i = 12 ∨ i = 13 ∨ i = 14 ∨ i = 15 ∨ i = 16 := by omega
  rcases h' with rfl | rfl | rfl | rfl | rfl | rfl | rfl | rfl | rfl | rfl | rfl | rfl | rfl | rfl | rfl | rfl | rfl <;> rfl
theorem fcells_text (f : Nat → Int) (s : ByteArray) : (RW.fcells f s)[17]? = some (.string s) := rfl
theorem cell_of_heap {w : World} {g : Nat} {cs : Array Value} {t : TypeId} {fr : Nat × Nat} (h : w.heap[g]? = some (.cells cs t fr)) (i : Nat) : w.cell? ⟨g, i, none⟩ = cs[i]? := by simp [World.cell?, h]
theorem fcells_fold (f : Nat → Int) (s : ByteArray) : Array.foldl (fun (cs : Array Value) (x : Value × Nat) => cs.setIfInBounds x.snd x.fst) #[.int .i64 0, .int .i64 0, .int .i64 0, .int .i64 0, .int .i64 0, .int .i64 0, .int .i64 0, .int .i64 0, .int .i64 0, .int .i64 0, .int .i64 0, .int .i64 0, .int .i64 0, .int .i64 0, .int .i64 0, .int .i64 0, .int .i64 0, .string ⟨#[]⟩] (RW.fcells f s).zipIdx 0 18 = RW.fcells f s := by
  unfold RW.fcells
  simp
namespace RW
/-- the cells of a record whose fields of a list were set to 0 -/
def zc (cs : Array Value) (l : List (Nat × Int × Int)) : Array Value := l.foldl (fun c x => c.setIfInBounds x.1 (.int .i64 0)) cs
theorem zc_snoc (cs : Array Value) (l : List (Nat × Int × Int)) (x : Nat × Int × Int) : zc cs (l ++ [x]) = (zc cs l).setIfInBounds x.1 (.int .i64 0) := by simp [zc]
theorem zc_size (l : List (Nat × Int × Int)) : ∀ cs : Array Value, (zc cs l).size = cs.size := by
  induction l with
  | nil => intro cs; rfl
  | cons x l ih => intro cs; show (zc (cs.setIfInBounds x.1 _) l).size = _; rw [ih]; simp
theorem zc_get (l : List (Nat × Int × Int)) : ∀ (cs : Array Value) (i : Nat), (∀ x ∈ l, x.1 ≠ i) → (zc cs l)[i]? = cs[i]? := by
  induction l with
  | nil => intro cs i _; rfl
  | cons x l ih =>
    intro cs i h
    show (zc (cs.setIfInBounds x.1 _) l)[i]? = _
    rw [ih _ _ (fun y hy => h y (by simp [hy])), Array.getElem?_setIfInBounds, if_neg (h x (by simp))]
theorem fldsV_get (r : Nat) : ∀ (l : List (Nat × Int × Int)) (i : Nat) (x : Nat × Int × Int), l[i]? = some x →
    (fldsV r l)[i * 3]? = some (.pointer (some ⟨r, x.1, none⟩)) ∧ (fldsV r l)[i * 3 + 1]? = some (.int .i64 x.2.1) ∧ (fldsV r l)[i * 3 + 2]? = some (.int .i64 x.2.2) := by
  intro l
  induction l with
  | nil => intro i x h; simp at h
  | cons y l ih =>
    intro i x h
    cases i with
    | zero => simp at h; subst h; exact ⟨rfl, rfl, rfl⟩
    | succ i =>
      have := ih i x (by simpa using h)
      have e : fldsV r (y :: l) = fld r y.1 y.2.1 y.2.2 ++ fldsV r l := rfl
      rw [e, show (i + 1) * 3 = 3 + i * 3 by omega]
      have hl : (fld r y.1 y.2.1 y.2.2).length = 3 := rfl
      refine ⟨?_, ?_, ?_⟩
      · rw [List.getElem?_append_right (by omega), hl, show 3 + i * 3 - 3 = i * 3 by omega]; exact this.1
      · rw [List.getElem?_append_right (by omega), hl, show 3 + i * 3 + 1 - 3 = i * 3 + 1 by omega]; exact this.2.1
      · rw [List.getElem?_append_right (by omega), hl, show 3 + i * 3 + 2 - 3 = i * 3 + 2 by omega]; exact this.2.2
/-- what Valid's loop keeps -/
structure VInv (B kb r g : Nat) (T23 T44 T50 T54 : Nat) (cs cs' kc fl : Array Value) (w W : World) : Prop where
  below : Below B w W
  fact : W.heap[B]? = some (.cells cs T23 (0, 0))
  kind : W.heap[kb]? = some (.cells kc T44 (0, 0))
  rcd : W.heap[r]? = some (.cells cs' T50 (0, 0))
  flds : W.heap[g]? = some (.cells fl T54 (0, 0))
  o1 : B < kb
  o2 : kb < r
  o3 : r < g
  o4 : g < W.heap.size
theorem VInv.grown {B kb r g T23 T44 T50 T54 : Nat} {cs cs' kc fl : Array Value} {w W W' : World} (h : VInv B kb r g T23 T44 T50 T54 cs cs' kc fl w W) (hB : Below W.heap.size W W') : VInv B kb r g T23 T44 T50 T54 cs cs' kc fl w W' := by
  have h1 := h.o1; have h2 := h.o2; have h3 := h.o3; have h4 := h.o4
  exact ⟨h.below.trans (hB.mono (by omega)), (hB.block _ (by omega)).trans h.fact, (hB.block _ (by omega)).trans h.kind, (hB.block _ (by omega)).trans h.rcd, (hB.block _ (by omega)).trans h.flds, h1, h2, h3, by have := hB.size; omega⟩
theorem VInv.set {B kb r g T23 T44 T50 T54 : Nat} {cs cs' kc fl : Array Value} {w W : World} (h : VInv B kb r g T23 T44 T50 T54 cs cs' kc fl w W) (i : Nat) (v : Value) : VInv B kb r g T23 T44 T50 T54 cs (cs'.setIfInBounds i v) kc fl w (W.setCell ⟨r, i, none⟩ v) := by
  have h1 := h.o1; have h2 := h.o2; have h3 := h.o3; have h4 := h.o4
  have ho : ∀ k, k ≠ r → (W.setCell ⟨r, i, none⟩ v).heap[k]? = W.heap[k]? := fun k hk => Below.heap_setCell _ _ _ _ hk
  exact ⟨h.below.setCell (by show B ≤ r; omega) _, (ho _ (by omega)).trans h.fact, (ho _ (by omega)).trans h.kind, heap_setCell_same _ _ _ _ _ _ h.rcd, (ho _ (by omega)).trans h.flds, h1, h2, h3, by simpa using h4⟩
end RW
theorem wpQuiet_load_row {P : Program} {ops : Array Oper} {C : World → Prop} {Q : Act → Prop} {rest : List Oper} {o : Oper} {a : Act} (hgd : o.guard = none) (ty : TypeId) (x : Operand) (ho : o.op = .load ty x)
    (g : Nat) (hx : a.eval x = .pointer (some ⟨g, 0, none⟩)) (cs : Array Value) (h : ∀ w, C w → (Instr.loadAt ty (.pointer (some ⟨g, 0, none⟩))).run P w = .ok (.agg cs) w)
    (hk : wpQuiet P ops C Q rest (a.put o.dst (.agg cs))) : wpQuiet P ops C Q (o :: rest) a := by
  unfold wpQuiet
  rw [if_pos (by simp [Region.wanted, hgd])]
  refine ⟨.agg cs, fun w hw => ?_, hk⟩
  unfold Oper.quietAt
  simp [execOp, ho, hx, h w hw, Oper.quietUpon]
/-- a whole row, loaded: folded so that the walk does not open it -/
def rowLoad (P : Program) (T : TypeId) (w : World) (g : Nat) := (Instr.loadAt T (.pointer (some ⟨g, 0, none⟩))).run P w
theorem rowLoad_fact (w : World) (g : Nat) : (Instr.loadAt 38 (.pointer (some ⟨g, 0, none⟩))).run Tryz.prog w = rowLoad Tryz.prog 38 w g := rfl
theorem rowLoad_eq {P : Program} (w : World) (g : Nat) (t ty : TypeId) (cs : Array Value) (fr : Nat × Nat) (d : TypeDesc) (hg : w.heap[g]? = some (.cells cs t fr))
    (hu : P.underlying ty = some d) (hd : (match d with | .struct _ | .array _ _ => true | _ => false) = true) (hi : (P.info? ty).map (·.size) = some cs.size) :
    rowLoad P ty w g = .ok (.agg cs) w := by
  unfold rowLoad
  simp only [Instr.loadAt, Instr.sureAddr, Sem.run_bind, Sem.run_pure, Result.andThen_ok, run_loadVar_row w g t ty cs fr d hg hu hd hi]
namespace RW
noncomputable def dec (p : Prop) : Bool := @decide p (Classical.propDecidable p)
theorem dec_iff (p : Prop) : dec p = true ↔ p := by unfold dec; exact @decide_eq_true_iff p (Classical.propDecidable p)
theorem dec_true {p : Prop} (h : p) : dec p = true := (dec_iff p).2 h
theorem dec_false {p : Prop} (h : ¬ p) : dec p = false := by
  cases e : dec p
  · rfl
  · exact absurd ((dec_iff p).1 e) h
theorem dec_eq {b : Bool} {p : Prop} (h : b = true ↔ p) : b = dec p := by
  cases b
  · exact (dec_false (fun hp => by simpa using h.2 hp)).symm
  · exact (dec_true (h.1 rfl)).symm
/-- a fact of a known kind is valid, its version and its text's length being within their limits -/
noncomputable def validK (l : List (Nat × Int × Int)) (tx : Bool) (f : Nat → Int) (n : Nat) : Bool :=
  dec ((∀ x ∈ l, x.2.1 ≤ f x.1 ∧ f x.1 ≤ x.2.2) ∧ (tx = true ∨ n = 0) ∧ ∀ i, i < 17 → i ≠ 0 → i ≠ 2 → (∀ x ∈ l, x.1 ≠ i) → f i = 0)
/-- the numbers, those of the list's fields set to 0 -/
def zf (f : Nat → Int) (l : List (Nat × Int × Int)) (i : Nat) : Int := if ∀ x ∈ l, x.1 ≠ i then f i else 0
theorem zc_zero (l : List (Nat × Int × Int)) : ∀ (cs : Array Value) (i : Nat), i < cs.size → (∃ x ∈ l, x.1 = i) → (zc cs l)[i]? = some (.int .i64 0) := by
  induction l with
  | nil => intro cs i _ ⟨x, hx, _⟩; cases hx
  | cons y l ih =>
    intro cs i hi ⟨x, hx, hxi⟩
    show (zc (cs.setIfInBounds y.1 _) l)[i]? = _
    by_cases h : ∃ z ∈ l, z.1 = i
    · exact ih _ _ (by simpa using hi) h
    · have hy : y.1 = i := by
        rcases List.mem_cons.1 hx with rfl | hx
        · exact hxi
        · exact absurd ⟨x, hx, hxi⟩ h
      rw [zc_get _ _ _ (fun z hz e => h ⟨z, hz, e⟩), hy]
      rw [Array.getElem?_setIfInBounds, if_pos rfl, if_pos hi]
end RW
namespace RW
/-- a fact with its kind and version alone -/
def yf (f : Nat → Int) (i : Nat) : Int := if i = 0 then f 0 else if i = 2 then f 2 else 0
theorem zf_yf (f : Nat → Int) (l : List (Nat × Int × Int)) (h : ∀ x ∈ l, x.1 ≠ 0 ∧ x.1 ≠ 2) :
    (∀ i, i < 17 → zf f l i = yf f i) ↔ ∀ i, i < 17 → i ≠ 0 → i ≠ 2 → (∀ x ∈ l, x.1 ≠ i) → f i = 0 := by
  constructor
  · intro h1 i hi h0 h2 hx
    have := h1 i hi
    unfold zf yf at this
    rwa [if_pos hx, if_neg h0, if_neg h2] at this
  · intro h1 i hi
    unfold zf yf
    by_cases h0 : i = 0
    · subst h0; rw [if_pos (fun x hx => (h x hx).1), if_pos rfl]
    · by_cases h2 : i = 2
      · subst h2; rw [if_pos (fun x hx => (h x hx).2), if_neg h0, if_pos rfl]
      · rw [if_neg h0, if_neg h2]
        by_cases hx : ∀ x ∈ l, x.1 ≠ i
        · rw [if_pos hx]; exact h1 i hi h0 h2 hx
        · rw [if_neg hx]
theorem bytes_nil (s : ByteArray) : s = ⟨#[]⟩ ↔ s.size = 0 := by
  constructor
  · rintro rfl; rfl
  · intro h
    apply ByteArray.ext
    apply Array.eq_empty_of_size_eq_zero
    simpa using h
theorem valid_no (f : Nat → Int) (l : List (Nat × Int × Int)) (s : ByteArray) (hin : ∀ x ∈ l, x.2.1 ≤ f x.1 ∧ f x.1 ≤ x.2.2) (h : ∀ x ∈ l, x.1 ≠ 0 ∧ x.1 ≠ 2) :
    dec ((∀ i, i < 17 → zf f l i = yf f i) ∧ s = ⟨#[]⟩) = validK l false f s.size := by
  refine dec_eq ?_
  rw [dec_iff, zf_yf f l h, bytes_nil]
  constructor
  · rintro ⟨h1, h2⟩; exact ⟨hin, .inr h2, h1⟩
  · rintro ⟨_, h2, h3⟩
    refine ⟨h3, ?_⟩
    rcases h2 with h2 | h2
    · cases h2
    · exact h2
theorem valid_yes (f : Nat → Int) (l : List (Nat × Int × Int)) (s : ByteArray) (hin : ∀ x ∈ l, x.2.1 ≤ f x.1 ∧ f x.1 ≤ x.2.2) (h : ∀ x ∈ l, x.1 ≠ 0 ∧ x.1 ≠ 2) :
    dec ((∀ i, i < 17 → zf f l i = yf f i) ∧ (⟨#[]⟩ : ByteArray) = ⟨#[]⟩) = validK l true f s.size := by
  refine dec_eq ?_
  rw [dec_iff, zf_yf f l h]
  constructor
  · rintro ⟨h1, _⟩; exact ⟨hin, .inl rfl, h1⟩
  · rintro ⟨_, _, h3⟩; exact ⟨h3, rfl⟩
end RW
theorem fcells_ext (X : Array Value) (f : Nat → Int) (s : ByteArray) (h : X.size = 18) (hi : ∀ i, i < 17 → X[i]? = some (.int .i64 (f i))) (ht : X[17]? = some (.string s)) : X = RW.fcells f s := by
  apply Array.ext_getElem?
  intro i
  by_cases h1 : i < 17
  · rw [hi i h1, fcells_get _ _ _ h1]
  · by_cases h2 : i = 17
    · subst h2; rw [ht, fcells_text]
    · rw [Array.getElem?_eq_none (by omega), Array.getElem?_eq_none (by rw [fcells_size]; omega)]
theorem fcells_notext (f : Nat → Int) (s : ByteArray) : (RW.fcells f s).setIfInBounds 17 (.string ⟨#[]⟩) = RW.fcells f ⟨#[]⟩ := by
  apply fcells_ext
  · simp [fcells_size]
  · intro i hi; rw [Array.getElem?_setIfInBounds, if_neg (by omega), fcells_get _ _ _ hi]
  · rw [Array.getElem?_setIfInBounds, if_pos rfl, if_pos (by rw [fcells_size]; decide)]
theorem zc_fcells (f : Nat → Int) (s : ByteArray) (l : List (Nat × Int × Int)) (h : ∀ x ∈ l, x.1 < 17) : RW.zc (RW.fcells f s) l = RW.fcells (RW.zf f l) s := by
  apply fcells_ext
  · rw [RW.zc_size]; rfl
  · intro i hi
    unfold RW.zf
    by_cases h1 : ∀ x ∈ l, x.1 ≠ i
    · rw [if_pos h1, RW.zc_get _ _ _ h1, fcells_get _ _ _ hi]
    · rw [if_neg h1]
      refine RW.zc_zero _ _ _ (by rw [fcells_size]; omega) ?_
      simpa using h1
  · rw [RW.zc_get _ _ _ (fun x hx => by have := h x hx; omega), fcells_text]
theorem eqFields_all {P : Program} {W : World} (d : Nat) (xs ys : Array Value) (eq : Field → Bool) : ∀ (fs : List Field), (∀ f ∈ fs, (f.name ≠ "_") ∧ ∃ a b, (part f.type xs f.offset).run P W = .ok a W ∧ (part f.type ys f.offset).run P W = .ok b W ∧ (Op.equalIn d f.type a b).run P W = .ok (eq f) W) →
    (Op.eqFields d xs ys fs).run P W = .ok (fs.all eq) W := by
  intro fs
  induction fs with
  | nil => intro _; rfl
  | cons f fs ih =>
    intro h
    obtain ⟨h1, a, b, ha, hb, he⟩ := h f (by simp)
    have hr := ih (fun g hg => h g (by simp [hg]))
    unfold Op.eqFields
    rw [if_pos h1]
    simp only [Sem.run_bind, ha, hb, he, Result.andThen_ok, Sem.run_ite]
    cases hq : eq f
    · simp [hq]
    · simp [hq, hr]
set_option maxRecDepth 100000 in
theorem eql_fact (f g : Nat → Int) (s u : ByteArray) (W : World) : (binOp .eql 38 (.agg (RW.fcells f s)) (.agg (RW.fcells g u))).run Tryz.prog W = .ok (.bool (RW.dec ((∀ i, i < 17 → f i = g i) ∧ s = u))) W := by
  have hfs : (Tryz.prog.fieldsOf 38).toList = (List.range 18).map (fun i => (Tryz.prog.fieldsOf 38)[i]!) := by kernel_rfl
  have hp : ∀ i, i < 17 → ((Tryz.prog.fieldsOf 38)[i]!).name ≠ "_" ∧ ((Tryz.prog.fieldsOf 38)[i]!).type = 3 ∧ ((Tryz.prog.fieldsOf 38)[i]!).offset = i := by decide +kernel
  have ht : ((Tryz.prog.fieldsOf 38)[17]!).name ≠ "_" ∧ ((Tryz.prog.fieldsOf 38)[17]!).type = 9 ∧ ((Tryz.prog.fieldsOf 38)[17]!).offset = 17 := by decide +kernel
  have hpi : ∀ (X : Array Value) (i : Nat) (v : Value), X[i]? = some v → (part 3 X i).run Tryz.prog W = .ok v W := fun X i v h => by
    simp [part, isAgg, run_underlying Tryz.underlying3, h]
  have hps : ∀ (X : Array Value) (i : Nat) (v : Value), X[i]? = some v → (part 9 X i).run Tryz.prog W = .ok v W := fun X i v h => by
    simp [part, isAgg, run_underlying Tryz.underlying9, h]
  rw [run_eql_struct, run_equalIn_agg (ht := by kernel_rfl) (hp := by kernel_rfl), hfs, eqFields_all 9999 _ _ (fun fl => if fl.offset = 17 then (s.toList == u.toList) else (f fl.offset == g fl.offset))]
  · simp only [Result.andThen_ok]
    congr 2
    refine RW.dec_eq ?_
    rw [List.all_map, List.all_eq_true]
    constructor
    · intro h
      refine ⟨fun i hi => ?_, ?_⟩
      · have := h i (by simp; omega)
        simp only [Function.comp, (hp i hi).2.2, if_neg (show ¬ i = 17 by omega)] at this
        simpa using this
      · have := h 17 (by simp)
        simp only [Function.comp, ht.2.2] at this
        have h2 : s.toList = u.toList := by simpa using this
        rw [ByteArray.toList_eq, ByteArray.toList_eq] at h2
        exact ByteArray.ext (Array.ext' h2)
    · rintro ⟨h1, h2⟩ i hi
      have hi' : i < 18 := by simpa using hi
      simp only [Function.comp]
      by_cases h3 : i < 17
      · rw [(hp i h3).2.2, if_neg (show ¬ i = 17 by omega)]; simpa using h1 i h3
      · obtain rfl : i = 17 := by omega
        rw [ht.2.2, if_pos rfl, h2]; simp
  · intro fl hfl
    obtain ⟨i, hi, rfl⟩ := List.mem_map.1 hfl
    have hi' : i < 18 := by simpa using hi
    by_cases h3 : i < 17
    · obtain ⟨p1, p2, p3⟩ := hp i h3
      rw [p2, p3]
      refine ⟨p1, _, _, hpi _ _ _ (fcells_get f s i h3), hpi _ _ _ (fcells_get g u i h3), ?_⟩
      rw [run_equalIn_int (k' := .i64) (h := Tryz.underlying3), if_neg (show ¬ i = 17 by omega)]
    · obtain rfl : i = 17 := by omega
      obtain ⟨p1, p2, p3⟩ := ht
      rw [p2, p3]
      refine ⟨p1, _, _, hps _ _ _ (fcells_text f s), hps _ _ _ (fcells_text g u), ?_⟩
      rw [run_equalIn_string (h := Tryz.underlying9), if_pos rfl]
end Go.Proofs.YtnlphbfjeekooaaGreatDoor

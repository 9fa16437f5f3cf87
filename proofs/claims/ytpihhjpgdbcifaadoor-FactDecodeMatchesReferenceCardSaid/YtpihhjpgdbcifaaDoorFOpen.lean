/-
  A fact as an argument: what is read of it, and that it reads so in every world.
-/
import Derived.Test.YtpihhjpgdbcifaaDoorCard
namespace Go.Proofs.YtpihhjpgdbcifaaDoor
open Go.ChangeShapes Go.WideShapes Go.ChangeAt Go.RowKit
section
variable {H : Type} {enc : TypeId × Value → H} {w w' : World} {base base' : Nat} {sp sp' : Nat → Bool} {held held' : Bool}
theorem mapM_same {α β : Type} (F G : α → Option β) : ∀ l : List α, (∀ x ∈ l, F x = G x) → l.mapM F = l.mapM G
  | [], _ => rfl
  | x :: l, h => by
    rw [List.mapM_cons, List.mapM_cons, h x (List.mem_cons_self ..), mapM_same F G l (fun y hy => h y (List.mem_cons_of_mem _ hy))]
theorem trod_int_same (fuel : Nat) (cs : List Value) : DataW.trod enc Tryd.prog w base sp held fuel 3 cs = DataW.trod enc Tryd.prog w' base' sp' held' fuel 3 cs := by
  apply Option.ext
  intro x
  constructor
  · intro h
    obtain ⟨n, rfl, rfl, hw⟩ := DataW.trod_int Tryd.underlying3 h
    cases fuel with
    | zero => simp [DataW.trod] at h
    | succ m => simp [DataW.trod, Tryd.underlying3, hw]
  · intro h
    obtain ⟨n, rfl, rfl, hw⟩ := DataW.trod_int Tryd.underlying3 h
    cases fuel with
    | zero => simp [DataW.trod] at h
    | succ m => simp [DataW.trod, Tryd.underlying3, hw]
theorem trod_str_same (fuel : Nat) (cs : List Value) : DataW.trod enc Tryd.prog w base sp held fuel 9 cs = DataW.trod enc Tryd.prog w' base' sp' held' fuel 9 cs := by
  apply Option.ext
  intro x
  constructor
  · intro h
    obtain ⟨n, rfl, rfl, hw⟩ := DataW.trod_string Tryd.underlying9 h
    cases fuel with
    | zero => simp [DataW.trod] at h
    | succ m => simp [DataW.trod, Tryd.underlying9, hw]
  · intro h
    obtain ⟨n, rfl, rfl, hw⟩ := DataW.trod_string Tryd.underlying9 h
    cases fuel with
    | zero => simp [DataW.trod] at h
    | succ m => simp [DataW.trod, Tryd.underlying9, hw]
/-- its fields: seventeen integers and a string -/
theorem fact_fields : ∃ fs : Array Field, Tryd.prog.underlying 23 = some (.struct fs) ∧ fs.size = 18 ∧ (∀ i, i < 17 → ∃ f : Field, fs[i]? = some f ∧ f.type = 3 ∧ f.offset = i) ∧ (∃ f : Field, fs[17]? = some f ∧ f.type = 9 ∧ f.offset = 17) ∧ ∀ f ∈ fs.toList, f.type = 3 ∨ f.type = 9 := by
  refine ⟨_, Tryd.underlying23, rfl, fun i hi => ?_, ⟨_, rfl, rfl, rfl⟩, by decide⟩
  rcases i with _ | _ | _ | _ | _ | _ | _ | _ | _ | _ | _ | _ | _ | _ | _ | _ | _ | i
  all_goals first | exact ⟨_, rfl, rfl, rfl⟩ | omega
set_option maxRecDepth 100000 in
theorem trod_fact_same (fuel : Nat) (cs : List Value) : DataW.trod enc Tryd.prog w base sp held fuel 23 cs = DataW.trod enc Tryd.prog w' base' sp' held' fuel 23 cs := by
  obtain ⟨fs, hu, _, _, _, hall⟩ := fact_fields
  cases fuel with
  | zero => rfl
  | succ n =>
    simp only [DataW.trod, hu]
    split
    · congr 1
      refine mapM_same _ _ _ (fun f hf => ?_)
      rcases hall f hf with h | h
      · rw [h]; exact trod_int_same _ _
      · rw [h]; exact trod_str_same _ _
    · rfl
theorem cellsI : Tryd.prog.cellsOf 3 = 1 := by kernel_rfl
theorem cellsF : Tryd.prog.cellsOf 23 = 18 := by kernel_rfl
def intAt (cs : Array Value) (i : Nat) : Int := match cs[i]? with
  | some (.int _ n) => n
  | _ => 0
theorem one_at {α : Type} (l : List α) (i : Nat) (v : α) (h : (l.drop i).take 1 = [v]) : l[i]? = some v := by
  have := congrArg (·[0]?) h
  simpa [List.getElem?_take, List.getElem?_drop] using this
set_option maxRecDepth 100000 in
/-- a fact, opened -/
theorem open_fact {W : World} {r : Reach} {b0 : Nat} {v : Value} {d : DataW H} {ps : List MemPlace} (hval : Value.okWide Tryd.prog W r b0 23 v) (h0 : DataW.Trod enc Tryd.prog W base sp held 23 v d ps) :
    ∃ (f : Nat → Int) (s : ByteArray), v = .agg (RW.fcells f s) ∧ ps = [] ∧ s.size ≤ maxLen ∧ (∀ W' base' sp' held', DataW.Trod enc Tryd.prog W' base' sp' held' 23 (.agg (RW.fcells f s)) d []) := by
  obtain ⟨fs, hu, hz, hint, ⟨fx, hfx, hft, hfo⟩, _⟩ := fact_fields
  obtain ⟨cs, rfl, hsz⟩ := okWide_struct hu hval
  obtain ⟨fuel, hf⟩ := h0
  have hf0 := hf
  obtain ⟨xs, m, _, hx, hl, hxl, hi⟩ := DataW.trod_struct hu hf
  have hcl : (Value.agg cs).cells.toList = cs.toList := rfl
  rw [hcl] at hl hi
  rw [cellsF] at hsz
  rw [hz] at hxl
  have hI : ∀ i, i < 17 → cs[i]? = some (.int .i64 (intAt cs i)) ∧ ∃ dd, xs[i]? = some (dd, []) := fun i hi' => by
    obtain ⟨ff, hff, ht, ho⟩ := hint i hi'
    have h1 := hi i ff hff
    rw [ht, ho, cellsI, List.getElem?_eq_getElem (by omega)] at h1
    obtain ⟨n, hn, hx2, _⟩ := DataW.trod_int Tryd.underlying3 h1
    have h2 := one_at _ _ _ hn
    rw [Array.getElem?_toList] at h2
    refine ⟨by unfold intAt; rw [h2], _, by rw [List.getElem?_eq_getElem (by omega), hx2]⟩
  have hS : ∃ s : ByteArray, cs[17]? = some (.string s) ∧ s.size ≤ maxLen ∧ ∃ dd, xs[17]? = some (dd, []) := by
    have h1 := hi 17 fx hfx
    rw [hft, hfo, cellsS, List.getElem?_eq_getElem (by omega)] at h1
    obtain ⟨s, hn, hx2, hm⟩ := DataW.trod_string Tryd.underlying9 h1
    have h2 := one_at _ _ _ hn
    rw [Array.getElem?_toList] at h2
    exact ⟨s, h2, hm, _, by rw [List.getElem?_eq_getElem (by omega), hx2]⟩
  obtain ⟨s, hs, hm, hd17⟩ := hS
  have hc : cs = RW.fcells (intAt cs) s := fcells_ext _ _ _ hsz (fun i hi' => (hI i hi').1) hs
  have hp : ps = [] := by
    have h1 := congrArg Prod.snd hx
    simp only at h1
    rw [h1, List.flatMap_eq_nil_iff]
    intro x hx'
    obtain ⟨i, hi', rfl⟩ := List.getElem_of_mem hx'
    have : ∃ dd, xs[i]? = some (dd, []) := by
      by_cases h17 : i < 17
      · exact (hI i h17).2
      · obtain rfl : i = 17 := (by omega); exact hd17
    obtain ⟨dd, hdd⟩ := this
    rw [List.getElem?_eq_getElem hi'] at hdd
    rw [Option.some.inj hdd]
  refine ⟨intAt cs, s, by rw [← hc], hp, hm, fun W' base' sp' held' => ⟨fuel, ?_⟩⟩
  rw [← hc, trod_fact_same (w' := W) (base' := base) (sp' := sp) (held' := held), hf0, hp]
end
end Go.Proofs.YtpihhjpgdbcifaaDoor

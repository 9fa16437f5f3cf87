/-
  Lists of numbers, of strings, messages and lists of messages as arguments: what is read of them.
-/
import Derived.Test.YtcbckcojebanaaaDoorMb
import Derived.Test.YtcbckcojebanaaaDoorBOpen
namespace Go.Proofs.YtcbckcojebanaaaDoor
open Go.ChangeShapes Go.WideShapes Go.ChangeAt Go.RowKit
section
variable {H : Type} {enc : TypeId × Value → H} {W : World} {sp : Nat → Bool} {held : Bool}
set_option maxRecDepth 100000 in
theorem trod_rows {α : Type} {k : Nat} {ec : α → List Value} {T E : TypeId} (good : α → Prop) (hu : Tryd.prog.underlying T = some (.slice E)) (hcl : Tryd.prog.cellsOf E = k) (h0 : 0 < k) (hlen : ∀ x, (ec x).length = k)
    (hel : ∀ (fuel : Nat) (cs : List Value) (x : DataW H × List MemPlace), cs.length = k → DataW.trod enc Tryd.prog W 0 sp held fuel E cs = some x → ∃ y : α, good y ∧ cs = ec y)
    {fuel : Nat} {cs : List Value} {x : DataW H × List MemPlace} (hf : DataW.trod enc Tryd.prog W 0 sp held fuel T cs = some x) :
    ∃ v, cs = [v] ∧ ∃ l : List α, RowV k ec W v l ∧ (∀ x ∈ l, good x) ∧ l.length ≤ 9223372036854775807 := by
  rcases Deep.open_slice hu hf with ⟨hcs, _⟩ | ⟨a', len, cap, m, n, D, Pl, hcs, hb, hl, hm, hmm, _, hall⟩
  · exact ⟨_, hcs, [], RowV.nil W, by simp, by simp⟩
  · refine ⟨_, hcs, ?_⟩
    have hlm : len ≤ m := by rw [hmm]; split <;> omega
    have key : ∀ i, i < len → ∃ y : α, good y ∧ ∀ j u, (ec y)[j]? = some u → W.cell? (a'.add (i * k + j)) = some u := fun i hi => by
      obtain ⟨cs', h1, h2⟩ := hall i (by omega)
      rw [hcl] at h1
      obtain ⟨_, hln, hc⟩ := World.cells?_some h1
      obtain ⟨y, hy, rfl⟩ := hel _ _ _ hln h2
      refine ⟨y, hy, fun j u hj => ?_⟩
      have hjk : j < k := by rw [← hln]; exact (List.getElem?_eq_some_iff.1 hj).1
      rw [← Deep.add_add, ← hj]
      exact hc j hjk
    rcases Nat.eq_zero_or_pos len with h00 | h00
    · subst h00
      exact ⟨[], ⟨some a', cap, rfl, Nat.zero_le _, .inl rfl⟩, by simp, by simp⟩
    · obtain ⟨y0, _, _⟩ := key 0 h00
      have : Nonempty α := ⟨y0⟩
      obtain ⟨X, hX⟩ := Classical.axiomOfChoice (r := fun (i : Fin len) (y : α) => good y ∧ ∀ j u, (ec y)[j]? = some u → W.cell? (a'.add (i.1 * k + j)) = some u) (fun i => key i.1 i.2)
      have hll : (List.ofFn X).length = len := List.length_ofFn
      have hget : ∀ i x, (List.ofFn X)[i]? = some x → ∃ hi : i < len, x = X ⟨i, hi⟩ := fun i x hx => by
        have hi := (List.getElem?_eq_some_iff.1 hx).1
        rw [hll] at hi
        refine ⟨hi, ?_⟩
        rw [List.getElem?_eq_getElem (by rw [hll]; exact hi), List.getElem_ofFn] at hx
        exact (Option.some.inj hx).symm
      refine ⟨List.ofFn X, ⟨some a', cap, by rw [hll], by rw [hll]; exact hl, .inr ?_⟩, fun x hx => ?_, by rw [hll]; unfold maxLen at hm; omega⟩
      · obtain ⟨b, off, spot⟩ := a'
        have hc0 : ∃ u, (ec (X ⟨0, h00⟩))[0]? = some u := ⟨_, List.getElem?_eq_getElem (by rw [hlen]; exact h0)⟩
        obtain ⟨u0, hu0⟩ := hc0
        have hr0 := (hX ⟨0, h00⟩).2 0 u0 hu0
        have hs : spot = none := by simpa [Addr.add] using World.cell?_spot hr0
        subst hs
        have hb2 : b < W.heap.size := by
          have := World.block_lt_of_cell? W _ hr0
          simpa [Addr.add] using this
        refine ⟨b, off, rfl, hb2, fun i x hx j u hj => ?_⟩
        obtain ⟨hi, rfl⟩ := hget i x hx
        have := (hX ⟨i, hi⟩).2 j u hj
        rwa [show ((⟨b, off, none⟩ : Addr).add (i * k + j)) = ⟨b, off + i * k + j, none⟩ by unfold Addr.add; split <;> simp_all [Nat.add_assoc]] at this
      · obtain ⟨i, hi⟩ := List.getElem?_of_mem hx
        obtain ⟨hi', rfl⟩ := hget i x hi
        exact (hX ⟨i, hi'⟩).1
theorem one_at {α : Type} (l : List α) (i : Nat) (v : α) (h : (l.drop i).take 1 = [v]) : l[i]? = some v := by
  have := congrArg (·[0]?) h
  simpa [List.getElem?_take, List.getElem?_drop] using this
def RW.i64b (x : Int) : Prop := -9223372036854775808 ≤ x ∧ x ≤ 9223372036854775807
abbrev encI : Int → List Value := fun z => [Value.int .i64 z]
abbrev encS : ByteArray → List Value := fun s => [Value.string s]
theorem cellsSl : Tryd.prog.cellsOf 22 = 1 := by kernel_rfl
theorem cellsStr : Tryd.prog.cellsOf 9 = 1 := by kernel_rfl
set_option maxRecDepth 100000 in
theorem trod_nums {fuel : Nat} {cs : List Value} {x : DataW H × List MemPlace} (hf : DataW.trod enc Tryd.prog W 0 sp held fuel 35 cs = some x) : ∃ v, cs = [v] ∧ ∃ l : List Int, RowV 1 encI W v l ∧ (∀ x ∈ l, RW.i64b x) ∧ l.length ≤ 9223372036854775807 :=
  trod_rows (k := 1) (ec := encI) (fun x : Int => RW.i64b x) Tryd.underlying35 (by kernel_rfl) (by decide) (fun _ => rfl) (fun _ cs _ _ h => by
    obtain ⟨z, hz, _, hw⟩ := DataW.trod_int Tryd.underlying3 h
    exact ⟨z, bounds_i64 hw, hz⟩) hf
set_option maxRecDepth 100000 in
theorem trod_strs {fuel : Nat} {cs : List Value} {x : DataW H × List MemPlace} (hf : DataW.trod enc Tryd.prog W 0 sp held fuel 22 cs = some x) : ∃ v, cs = [v] ∧ ∃ l : List ByteArray, RowV 1 encS W v l ∧ (∀ x ∈ l, x.size ≤ 9223372036854775807) ∧ l.length ≤ 9223372036854775807 :=
  trod_rows (k := 1) (ec := encS) (fun x : ByteArray => x.size ≤ 9223372036854775807) Tryd.underlying22 (by kernel_rfl) (by decide) (fun _ => rfl) (fun _ cs _ _ h => by
    obtain ⟨z, hz, _, hw⟩ := DataW.trod_string Tryd.underlying9 h
    exact ⟨z, by unfold maxLen at hw; omega, hz⟩) hf
/-- a list of strings, as rows say it and as the walks of package ballot say it -/
theorem strsV_row {v : Value} {l : List ByteArray} (h : RowV 1 encS W v l) : StrsV W v l := by
  obtain ⟨a, cap, rfl, hc, h⟩ := h
  refine ⟨a, cap, rfl, hc, h.imp id ?_⟩
  rintro ⟨b, o, rfl, hb, hr⟩
  refine ⟨b, o, rfl, hb, fun i hi => ?_⟩
  have := hr i _ (List.getElem?_eq_getElem hi) 0 _ rfl
  rw [Nat.mul_one, Nat.add_zero] at this
  rw [this, List.getD, List.getElem?_eq_getElem hi]
  rfl
set_option maxRecDepth 100000 in
theorem cells_slice {t e : TypeId} (hu : Tryd.prog.underlying t = some (.slice e)) {r : Reach} {b0 : Nat} {v : Value} (hval : Value.okWide Tryd.prog W r b0 t v) : v.cells.toList = [v] := by
  obtain ⟨a, len, cap, rfl⟩ := okWide_slice hu hval
  rfl
set_option maxRecDepth 100000 in
theorem open_nums {r : Reach} {b0 : Nat} {v : Value} {d : DataW H} {ps : List MemPlace} (hval : Value.okWide Tryd.prog W r b0 35 v) (h : DataW.Trod enc Tryd.prog W 0 sp held 35 v d ps) :
    ∃ l : List Int, RowV 1 encI W v l ∧ (∀ x ∈ l, RW.i64b x) ∧ l.length ≤ 9223372036854775807 := by
  obtain ⟨fuel, hf⟩ := h
  rw [cells_slice Tryd.underlying35 hval] at hf
  obtain ⟨v', hv, h⟩ := trod_nums hf
  cases hv
  exact h
set_option maxRecDepth 100000 in
theorem open_strsv {r : Reach} {b0 : Nat} {v : Value} {d : DataW H} {ps : List MemPlace} (hval : Value.okWide Tryd.prog W r b0 22 v) (h : DataW.Trod enc Tryd.prog W 0 sp held 22 v d ps) :
    ∃ l : List ByteArray, RowV 1 encS W v l ∧ (∀ x ∈ l, x.size ≤ 9223372036854775807) ∧ l.length ≤ 9223372036854775807 := by
  obtain ⟨fuel, hf⟩ := h
  rw [cells_slice Tryd.underlying22 hval] at hf
  obtain ⟨v', hv, h⟩ := trod_strs hf
  cases hv
  exact h
/-- a message as an argument: six numbers, a digest, a list of strings and the value that holds it -/
structure RW.Min where
  n : Nat → Int
  d : ByteArray
  v : Value
  l : List ByteArray
def RW.minl (x : RW.Min) : List Value := (RW.mcells x.n x.d x.v).toList
/-- what is known of a message that is handed in -/
structure MinIn (W : World) (x : RW.Min) : Prop where
  nb : ∀ i, i < 6 → RW.i64b (x.n i)
  db : x.d.size ≤ 9223372036854775807
  row : RowV 1 encS W x.v x.l
  sb : ∀ s ∈ x.l, s.size ≤ 9223372036854775807
  ln : x.l.length ≤ 9223372036854775807
theorem msg_fields : ∃ fs : Array Field, Tryd.prog.underlying 24 = some (.struct fs) ∧ fs.size = 8 ∧ (∀ i, i < 6 → ∃ f : Field, fs[i]? = some f ∧ f.type = 3 ∧ f.offset = i) ∧ (∃ f : Field, fs[6]? = some f ∧ f.type = 9 ∧ f.offset = 6) ∧ (∃ f : Field, fs[7]? = some f ∧ f.type = 22 ∧ f.offset = 7) := by
  refine ⟨_, Tryd.underlying24, rfl, fun i hi => ?_, ⟨_, rfl, rfl, rfl⟩, ⟨_, rfl, rfl, rfl⟩⟩
  rcases i with _ | _ | _ | _ | _ | _ | i
  all_goals first | exact ⟨_, rfl, rfl, rfl⟩ | omega
set_option maxRecDepth 100000 in
theorem open_msgc {fuel : Nat} {cs : List Value} {x : DataW H × List MemPlace} (hl : cs.length = 8) (h : DataW.trod enc Tryd.prog W 0 sp held fuel 24 cs = some x) : ∃ y : RW.Min, MinIn W y ∧ cs = RW.minl y := by
  obtain ⟨fs, hu, hz, hint, ⟨f6, hf6, ht6, ho6⟩, ⟨f7, hf7, ht7, ho7⟩⟩ := msg_fields
  obtain ⟨xs, m, _, hx, _, hxl, hi⟩ := DataW.trod_struct hu h
  have key : ∀ i, i < 6 → ∃ z : Int, cs[i]? = some (.int .i64 z) ∧ RW.i64b z := fun i hi6 => by
    obtain ⟨f, hf, ht, ho⟩ := hint i hi6
    have g := hi i f hf
    rw [ht, ho, cellsI, List.getElem?_eq_getElem (by omega)] at g
    obtain ⟨n, hn, _, hw⟩ := DataW.trod_int Tryd.underlying3 g
    exact ⟨n, one_at _ _ _ hn, bounds_i64 hw⟩
  obtain ⟨n, hn⟩ := Deep.choose_lt (p := fun j z => cs[j]? = some (.int .i64 z) ∧ RW.i64b z) key
  have g6 := hi 6 f6 hf6
  rw [ht6, ho6, cellsStr, List.getElem?_eq_getElem (by omega)] at g6
  obtain ⟨d, hd, _, hdm⟩ := DataW.trod_string Tryd.underlying9 g6
  have g7 := hi 7 f7 hf7
  rw [ht7, ho7, cellsSl, List.getElem?_eq_getElem (by omega)] at g7
  obtain ⟨v, hv, l, hrow, hgood, hln⟩ := trod_strs g7
  refine ⟨⟨n, d, v, l⟩, ⟨fun i hi6 => (hn i hi6).2, by unfold maxLen at hdm; exact Nat.le_trans hdm (by decide), hrow, hgood, hln⟩, ?_⟩
  have e6 := one_at _ _ _ hd
  have e7 := one_at _ _ _ hv
  apply List.ext_getElem?
  intro i
  rcases Nat.lt_or_ge i 8 with h3 | h3
  · rcases i with _ | _ | _ | _ | _ | _ | _ | _ | i
    · rw [(hn 0 (by decide)).1]; rfl
    · rw [(hn 1 (by decide)).1]; rfl
    · rw [(hn 2 (by decide)).1]; rfl
    · rw [(hn 3 (by decide)).1]; rfl
    · rw [(hn 4 (by decide)).1]; rfl
    · rw [(hn 5 (by decide)).1]; rfl
    · rw [e6]; rfl
    · rw [e7]; rfl
    · omega
  · rw [List.getElem?_eq_none (by omega), List.getElem?_eq_none (by show 8 ≤ i; exact h3)]
set_option maxRecDepth 100000 in
theorem okWide_structM {t : TypeId} {fs : Array Field} (hu : Tryd.prog.underlying t = some (.struct fs)) {r : Reach} {b0 : Nat} {v : Value} (hval : Value.okWide Tryd.prog W r b0 t v) : ∃ cs, v = .agg cs ∧ cs.size = Tryd.prog.cellsOf t := by
  simp only [Value.okWide, hu] at hval
  obtain ⟨cs, h1, h2, _⟩ := hval
  exact ⟨cs, h1, h2⟩
set_option maxRecDepth 100000 in
theorem open_msg {r : Reach} {b0 : Nat} {v : Value} {d : DataW H} {ps : List MemPlace} (hval : Value.okWide Tryd.prog W r b0 24 v) (h : DataW.Trod enc Tryd.prog W 0 sp held 24 v d ps) :
    ∃ y : RW.Min, v = .agg (RW.mcells y.n y.d y.v) ∧ MinIn W y := by
  obtain ⟨fs, hu, hz, _⟩ := msg_fields
  obtain ⟨cs, rfl, hsz⟩ := okWide_structM hu hval
  obtain ⟨fuel, hf⟩ := h
  have hcl : (Value.agg cs).cells.toList = cs.toList := rfl
  rw [hcl] at hf
  rw [show Tryd.prog.cellsOf 24 = 8 by kernel_rfl] at hsz
  obtain ⟨y, h1, h3⟩ := open_msgc (by rw [Array.length_toList]; exact hsz) hf
  exact ⟨y, by
    have := congrArg List.toArray h3
    rw [Array.toArray_toList] at this
    rw [this]
    rfl, h1⟩
set_option maxRecDepth 100000 in
theorem open_msgs {r : Reach} {b0 : Nat} {v : Value} {d : DataW H} {ps : List MemPlace} (hval : Value.okWide Tryd.prog W r b0 43 v) (h : DataW.Trod enc Tryd.prog W 0 sp held 43 v d ps) :
    ∃ l : List RW.Min, RowV 8 RW.minl W v l ∧ (∀ x ∈ l, MinIn W x) ∧ l.length ≤ 9223372036854775807 := by
  obtain ⟨fuel, hf⟩ := h
  rw [cells_slice Tryd.underlying43 hval] at hf
  obtain ⟨v', hv, h⟩ := trod_rows (k := 8) (ec := RW.minl) (fun y : RW.Min => MinIn W y) Tryd.underlying43 (by kernel_rfl) (by decide) (fun _ => rfl) (fun _ _ _ hl h => open_msgc hl h) hf
  cases hv
  exact h
end
end Go.Proofs.YtcbckcojebanaaaDoor
